/- The walks of codec. -/
import Derived.Test.YtiiklnghnifmjaaGreatDoorCodEZc
import Derived.Test.YtiiklnghnifmjaaGreatDoorProg
set_option linter.unusedVariables false
set_option maxRecDepth 100000
set_option maxHeartbeats 1000000
set_option linter.unusedSimpArgs false
namespace Go.Proofs.YtiiklnghnifmjaaGreatDoor.Cod
open Go.RowKit Go.Proofs.YtiiklnghnifmjaaGreatDoor.Sx
theorem ty3 : TyI Tryz.prog 3 (.int .i64 0) 1 8 false := ⟨by kernel_rfl, _, Tryz.underlying3, rfl⟩
theorem ty5 : TyI Tryz.prog 5 (.int .u8 0) 1 1 false := ⟨by kernel_rfl, _, Tryz.underlying5, rfl⟩
theorem ty27 : TyI Tryz.prog 27 (.slice none 0 0) 1 24 false := ⟨by kernel_rfl, _, Tryz.underlying27, rfl⟩
theorem ty57 : TyI Tryz.prog 57 (.agg #[.int .i64 0, .slice none 0 0]) 2 32 true := ⟨by kernel_rfl, _, Tryz.underlying57, rfl⟩
theorem enc_calls (w0 : World) {ok : Nat → Prop} {A : Option Addr} {xs : List Fld} {c : Nat} (hr : Rd FE w0 ok A xs c) : Calls Tryz.prog 30 #[.slice A xs.length c] w0 fun e w' => ∃ v, e = .returned (.tuple #[v, .int .i64 (if (encR xs).isSome then 0 else 11)]) ∧ Mods (fun _ => False) w0 w' ∧ RowOut (.int .u8) 5 w0 w' v ((encR xs).getD []) := by
 refine cow Tryz.func30 rfl Tryz.ntmps30 (Nat.le_of_ble_eq_true rfl) fun a F => ?_
 have H := Hp.nil (fun _ => False) w0
 have H := H.arg 901 hr.all (fun _ h => ⟨h, fun h => h⟩)
 have hle901 := hr.le; unfold maxLen at hle901
 refine sr fun _ hK1 => la F rfl (x_assign rfl) fun a F => la F rfl (x_assign rfl) fun a F => wn (hK1 _ _ ?_)
 refine wp_seq_k fun khK2 hK2 => ?_
 refine sr fun _ hK3 => la F rfl (x_move (F.t 0 rfl)) fun a F => la F rfl (x_len_slice Tryz.underlying60 (F.t 8 rfl)) fun a F => la F rfl (x_gtr (F.t 9 rfl) rfl) fun a F => wn (hK3 _ _ ?_)
 refine wp_cond_split (F.t 10 rfl) (fun hc10 => ?_) (fun hc10 => ?_)
 ·have hk10_1 := hc10; try simp only [bL] at hc10
  have hnone := encR_many hc10
  refine sr fun khK4 hK4 => la F rfl (x_assign rfl) fun a F => la F rfl (x_assign rfl) fun a F => wn (hK4 _ _ ?_)
  refine wp_ret ?_
  try simp only [Exit.then, Exit.inBlock]
  exact fin_ret F (res2 F rfl rfl rfl) ⟨.slice none 0 0, by rw [hnone]; rfl, H.mods, by rw [hnone]; exact RowOut.nil _ _ _ _⟩
 have hk10_2 := hc10; try simp only [bL] at hc10
 refine wp_skip (hK2 _ _ (sr fun _ hK5 => la F rfl (x_assign rfl) fun a F => ?_))
 have H := H.row0 4 (.int .u8) 5
 refine wn (hK5 _ _ ?_)
 refine wp_seq_k fun khK6 hK6 => ?_
 refine sr fun _ hK7 => la F rfl (x_move (F.t 0 rfl)) fun a F => la F rfl (x_len_slice Tryz.underlying60 (F.t 11 rfl)) fun a F => la F rfl (x_move rfl) fun a F => wn (hK7 _ _ (wp_block ?_))
 refine wp_loop_ghost (fun n_ a w => ∃ k : Nat, ∃ v4 : Value, n_ = xs.length - k ∧ (k ≤ xs.length) ∧ ((xs.take k).all okF = true) ∧ ((encI (xs.take k)).length ≤ 2003 * k) ∧ Fr 48 a [(4, v4), (11, .slice A xs.length c), (12, .int .i64 (xs.length : Int)), (13, .int .i64 (k : Int))] ∧ Hp (fun _ => False) w0 w [(901, .rd_ FE A xs c (fun k => k < w0.heap.size)), (4, .row (.int .u8) 5 v4 (encI (xs.take k)) (fun _ => False))]) (xs.length) ?_ ?_
 ·exact ⟨0, .slice none 0 0, rfl, by omega, rfl, by simp [encI], ((((F.bare.add F 13 rfl).add F 12 rfl).add F 11 rfl).add F 4 rfl), H.sub _ (sub_cons (sub_cons (sub_nil _) 4 rfl) 901 rfl)⟩
 rintro _ a w ⟨k, v4, rfl, hq0_0, hq0_1, hq0_2, F, H⟩
 refine sr fun _ hK8 => la F rfl (x_lss (F.t 13 rfl) (F.t 12 rfl)) fun a F => wn (hK8 _ _ ?_)
 refine wp_seq_k fun _ hK9 => ?_
 refine wp_cond_split (F.t 14 rfl) (fun hc14 => ?_) (fun hc14 => ?_)
 ·have hk14_3 := hc14; try simp only [bL] at hc14
  refine wp_skip (hK9 _ _ ?_)
  refine wp_seq_k fun _ hK10 => ?_
  refine wp_block (sr fun _ hK11 => ?_)
  obtain ⟨fA1, fc1, hfr1, hf1_0, hf1_1, hfw1⟩ := Rd.fld ((H.rd 901 rfl)) (gf_some (xs := xs) (i := (k : Int)) (by omega) (by omega))
  have H := H.subrd 901 rfl 1001 hfr1 (fun _ h => h)
  have H := H.subcels 901 rfl 1499 hfw1 (Rd.inok ((H.rd 901 rfl)) (by omega) _)
  have H := H.subcel 901 rfl 1500 hf1_0 (Rd.inok ((H.rd 901 rfl)) (by omega) _)
  have H := H.subcel 901 rfl 1501 hf1_1 (Rd.inok ((H.rd 901 rfl)) (by omega) _)
  refine la F rfl (x_iaddr_A Tryz.underlying60 ty57 ((H.rd 901 rfl)) (F.t 11 rfl) (F.t 13 rfl) (by omega) (by omega) _) fun a F => la F rfl (x_loadn ty57 (F.t 15 rfl) rfl (H.holds 1499 _ rfl)) fun a F => ?_
  refine lp rfl ?_
  refine w_alloc 6 F H rfl ty57 ?_
  clear F H; intro a w b6 F H
  refine lp rfl ?_
  refine w_storeA 6 H ty57 rfl (F.t 6 rfl) (F.t 16 rfl) rfl (by simp [Value.cells, Value.oneCell']) rfl ?_
  clear H; intro w H
  refine wn (hK11 _ _ (sr fun _ hK12 => la F rfl (x_faddr Tryz.underlying57 rfl ty27 (by decide) (F.t 6 rfl) rfl) fun a F => la F rfl (x_load1 ty27 (F.t 17 rfl) (blk_cell (H.at 6 rfl) 1 rfl)) fun a F => la F rfl (x_len_slice Tryz.underlying27 (F.t 18 rfl)) fun a F => la F rfl (x_assign (F.t 19 rfl)) fun a F => wn (hK12 _ _ ?_)))
  refine wp_seq_k fun _ hK13 => ?_
  refine sr fun _ hK14 => la F rfl (x_faddr Tryz.underlying57 rfl ty3 (by decide) (F.t 6 rfl) rfl) fun a F => la F rfl (x_load1 ty3 (F.t 20 rfl) (blk_cell (H.at 6 rfl) 0 rfl)) fun a F => la F rfl (x_lss (F.t 21 rfl) rfl) fun a F => la F rfl (x_move (F.t 22 rfl)) fun a F => ?_
  refine split_bool F 23 rfl (fun hb23 => ?_) (fun hb23 => ?_)
  ·have hc23 := hb23; try simp only [bL] at hc23
   have hnone := encR_bad (by omega) (.inl hc23)
   refine los F hb23 rfl fun a F => los F hb23 rfl fun a F => los F hb23 rfl fun a F => la F rfl (x_pickT (F.t 23 rfl) hb23 rfl) fun a F => la F rfl (x_move (F.t 27 rfl)) fun a F => lo F rfl fun a F => lo F rfl fun a F => la F rfl (x_pickT (F.t 28 rfl) rfl rfl) fun a F => ?_
   refine wn (hK14 _ _ ?_)
   refine wp_cond_true (F.t 31 rfl) ?_
   refine sr fun _ hK15 => la F rfl (x_assign rfl) fun a F => la F rfl (x_assign rfl) fun a F => wn (hK15 _ _ ?_)
   refine wp_ret ?_
   try simp only [Exit.then, Exit.inBlock]
   exact fin_ret F (res2 F rfl rfl rfl) ⟨.slice none 0 0, by rw [hnone]; rfl, H.mods, by rw [hnone]; exact RowOut.nil _ _ _ _⟩
  have hc23 := hb23; try simp only [bL] at hc23
  refine lgs F hb23 rfl (x_faddr Tryz.underlying57 rfl ty3 (by decide) (F.t 6 rfl) rfl) fun a F => lgs F hb23 rfl (x_load1 ty3 (F.t 24 rfl) (blk_cell (H.at 6 rfl) 0 rfl)) fun a F => lgs F hb23 rfl (x_gtr (F.t 25 rfl) rfl) fun a F => la F rfl (x_pickF (F.t 23 rfl) hb23 (F.t 26 rfl)) fun a F => la F rfl (x_move (F.t 27 rfl)) fun a F => ?_
  refine split_bool F 28 rfl (fun hb28 => ?_) (fun hb28 => ?_)
  ·have hc28 := hb28; try simp only [bL] at hc28
   have hnone := encR_bad (by omega) (.inr (.inl hc28))
   refine los F hb28 rfl fun a F => los F hb28 rfl fun a F => la F rfl (x_pickT (F.t 28 rfl) hb28 rfl) fun a F => wn (hK14 _ _ ?_)
   refine wp_cond_true (F.t 31 rfl) ?_
   refine sr fun _ hK16 => la F rfl (x_assign rfl) fun a F => la F rfl (x_assign rfl) fun a F => wn (hK16 _ _ ?_)
   refine wp_ret ?_
   try simp only [Exit.then, Exit.inBlock]
   exact fin_ret F (res2 F rfl rfl rfl) ⟨.slice none 0 0, by rw [hnone]; rfl, H.mods, by rw [hnone]; exact RowOut.nil _ _ _ _⟩
  have hc28 := hb28; try simp only [bL] at hc28
  refine lgs F hb28 rfl (x_move (F.t 7 rfl)) fun a F => lgs F hb28 rfl (x_gtr (F.t 29 rfl) rfl) fun a F => la F rfl (x_pickF (F.t 28 rfl) hb28 (F.t 30 rfl)) fun a F => wn (hK14 _ _ ?_)
  refine wp_cond_split (F.t 31 rfl) (fun hc31 => ?_) (fun hc31 => ?_)
  ·have hk31_4 := hc31; try simp only [bL] at hc31
   have hnone := encR_bad (by omega) (.inr (.inr hc31))
   refine sr fun _ hK17 => la F rfl (x_assign rfl) fun a F => la F rfl (x_assign rfl) fun a F => wn (hK17 _ _ ?_)
   refine wp_ret ?_
   try simp only [Exit.then, Exit.inBlock]
   exact fin_ret F (res2 F rfl rfl rfl) ⟨.slice none 0 0, by rw [hnone]; rfl, H.mods, by rw [hnone]; exact RowOut.nil _ _ _ _⟩
  have hk31_5 := hc31; try simp only [bL] at hc31
  refine wp_skip (hK13 _ _ ?_)
  refine r_start [(6, .blk b6 (.cells #[.int .i64 (gf xs (k : Int)).1, .slice fA1 (gf xs (k : Int)).2.length fc1] 57 (0, 0)))] (by kernel_rfl) H fun H => ?_
  have hS : SL [(6, .blk b6 (.cells #[.int .i64 (gf xs (k : Int)).1, .slice fA1 (gf xs (k : Int)).2.length fc1] 57 (0, 0)))] _ := SL.of H (sub_cons (sub_nil _) 6 rfl)
  refine rT 0 F rfl (by kernel_rfl) pq rfl hS (fun w hS => x_move (F.t 4 rfl)) rfl fun a F => ?_
  refine rT 1 F rfl (by kernel_rfl) pq rfl hS (fun w hS => x_faddr Tryz.underlying57 rfl ty3 (by decide) (F.t 6 rfl) rfl) rfl fun a F => ?_
  refine rT 2 F rfl (by kernel_rfl) pq rfl hS (fun w hS => x_load1 ty3 (F.t 33 rfl) (blk_cell (SL.at_ hS 6 rfl) 0 rfl)) rfl fun a F => ?_
  refine rT 3 F rfl (by kernel_rfl) pq rfl hS (fun w hS => x_conv Tryz.underlying5 ⟨_, Tryz.underlying3⟩ (F.t 34 rfl) (wu8 (by omega) (by omega))) rfl fun a F => ?_
  refine rT 4 F rfl (by kernel_rfl) pq rfl hS (fun w hS => x_move (F.t 7 rfl)) rfl fun a F => ?_
  refine rT 5 F rfl (by kernel_rfl) pq rfl hS (fun w hS => x_shr (F.t 36 rfl) rfl (by omega) (shr8 _)) rfl fun a F => ?_
  refine rT 6 F rfl (by kernel_rfl) pq rfl hS (fun w hS => x_conv Tryz.underlying5 ⟨_, Tryz.underlying3⟩ (F.t 37 rfl) (wu8 (by omega) (by omega))) rfl fun a F => ?_
  refine rT 7 F rfl (by kernel_rfl) pq rfl hS (fun w hS => x_move (F.t 7 rfl)) rfl fun a F => ?_
  refine rT 8 F rfl (by kernel_rfl) pq rfl hS (fun w hS => x_conv Tryz.underlying5 ⟨_, Tryz.underlying3⟩ (F.t 39 rfl) (IntKind.wrap_u8 _)) rfl fun a F => ?_
  refine rT 11 F rfl (by kernel_rfl) pq rfl hS (fun w hS => x_faddr Tryz.underlying57 rfl ty27 (by decide) (F.t 6 rfl) rfl) rfl fun a F => ?_
  refine rT 12 F rfl (by kernel_rfl) pq rfl hS (fun w hS => x_load1 ty27 (F.t 43 rfl) (blk_cell (SL.at_ hS 6 rfl) 1 rfl)) rfl fun a F => ?_
  refine r_do 9 rfl (by kernel_rfl) rfl rfl ?_
  refine w_lit 41 (enc := Value.int .u8) (h1 := fun _ => rfl) ([(gf xs (k : Int)).1, ((gf xs (k : Int)).2.length : Int) / 256, ((gf xs (k : Int)).2.length : Int) % 256]) F H rfl Tryz.underlying27 ty5 (by simp only [bM, F.t 35 rfl, F.t 38 rfl, F.t 40 rfl]; rfl) rfl (by decide) (by decide) (by kernel_rfl) ?_
  clear F H; intro a w b41 F H
  refine aN (SL.of H (sub_cons (sub_nil _) 6 rfl)) fun hS => ?_
  refine r_do 10 rfl (by kernel_rfl) rfl rfl ?_
  refine w_append 4 41 (xs := (encI (xs.take k))) (ys := ([(gf xs (k : Int)).1, ((gf xs (k : Int)).2.length : Int) / 256, ((gf xs (k : Int)).2.length : Int) % 256])) F H rfl Tryz.underlying27 ty5 rfl rfl rfl rfl (Row.rd (ok' := fun k_ => (fun _ => False) k_ ∨ (.slice (some ⟨b41, 0, none⟩) ([(gf xs (k : Int)).1, ((gf xs (k : Int)).2.length : Int) / 256, ((gf xs (k : Int)).2.length : Int) % 256]).length ([(gf xs (k : Int)).1, ((gf xs (k : Int)).2.length : Int) / 256, ((gf xs (k : Int)).2.length : Int) % 256]).length : Value).ownBlock = some k_) (H.row 41 rfl) (fun _ hk_ _ => .inl hk_) (fun _ hk_ => .inr hk_)) (by rintro k_ (hk_ | hk_); exact .inr hk_; exact .inl hk_) (F.t 32 rfl) (F.t 41 rfl) (by simp only [lN] at *; omega) (by simp only [lN, maxLen] at *; omega) (fun _ => False) (fun w' v' h => row_flat h _) (fun k_ hk_ => hk_.elim) ?_
  clear F H; intro a w v42 F H
  refine aN (SL.of H (sub_cons (sub_nil _) 6 rfl)) fun hS => ?_
  refine r_do 13 rfl (by kernel_rfl) rfl rfl ?_
  refine w_append 4 1001 (xs := ((encI (xs.take k)) ++ ([(gf xs (k : Int)).1, ((gf xs (k : Int)).2.length : Int) / 256, ((gf xs (k : Int)).2.length : Int) % 256]))) (ys := ((gf xs (k : Int)).2)) F H rfl Tryz.underlying27 ty5 rfl rfl rfl rfl ((H.rd 1001 rfl)) oI (F.t 42 rfl) (F.t 44 rfl) (by simp only [lN] at *; omega) (by simp only [lN, maxLen] at *; omega) (fun _ => False) (fun w' v' h => row_flat h _) (fun k_ hk_ => hk_.elim) ?_
  clear F H; intro a w v45 F H
  refine aN (SL.of H (sub_cons (sub_nil _) 6 rfl)) fun hS => ?_
  refine rT 14 F rfl (by kernel_rfl) pq rfl hS (fun w hS => x_assign (F.t 45 rfl)) rfl fun a F => ?_
  refine r_end (by kernel_rfl) ?_; clear hS
  refine hK10 _ _ ?_
  refine wp_region_lit ?_
  refine la F rfl (x_add (F.t 13 rfl) rfl (w64 (by omega) (by omega))) fun a F => la F rfl (x_move (F.t 46 rfl)) fun a F => ?_
  refine wpList_nil ?_
  have hHs : Hp (fun _ => False) w0 w [(901, .rd_ FE A xs c (fun k => k < w0.heap.size)), (4, .row (.int .u8) 5 v45 ((encI (xs.take k) ++ [(gf xs (k : Int)).1, ((gf xs (k : Int)).2.length : Int) / 256, ((gf xs (k : Int)).2.length : Int) % 256]) ++ (gf xs (k : Int)).2) (fun _ => False))] := H.sub _ (sub_cons (sub_cons (sub_nil _) 4 rfl) 901 rfl)
  rw [encI_step hc14] at hHs
  exact ⟨_, by omega, ⟨k + 1, v45, rfl, by omega, all_step hc14 hq0_1 hc23 hc28 hc31, len_step hc14 hq0_2 hc31, ((((F.bare.add F 13 rfl).add F 12 rfl).add F 11 rfl).add F 4 rfl), hHs⟩⟩
 have hk14_6 := hc14; try simp only [bL] at hc14
 obtain rfl : k = xs.length := by omega
 rw [List.take_length] at hq0_1
 have hsome := encR_all hc10 hq0_1
 refine wp_exit ?_
 refine hK6 _ _ (sr fun _ hK18 => la F rfl (x_move (F.t 4 rfl)) fun a F => la F rfl (x_assign (F.t 47 rfl)) fun a F => la F rfl (x_assign rfl) fun a F => wn (hK18 _ _ ?_))
 refine wp_ret ?_
 try simp only [Exit.then, Exit.inBlock]
 rw [List.take_length] at H
 exact fin_ret F (res2 F rfl rfl rfl) ⟨_, by rw [hsome]; rfl, H.mods, by rw [hsome]; exact Hp.out H 4 rfl⟩
theorem enc_at {w0 : World} {ok : Nat → Prop} {A : Option Addr} {xs : List Fld} {c : Nat} (hr : Rd FE w0 ok A xs c) {ys : List Int} (h : encR xs = some ys) : Calls Tryz.prog 30 #[.slice A xs.length c] w0 fun e w' => ∃ v, e = .returned (.tuple #[v, .int .i64 0]) ∧ Mods (fun _ => False) w0 w' ∧ RowOut (.int .u8) 5 w0 w' v ys := by
 have := enc_calls w0 hr
 rw [h] at this
 exact this
theorem num_calls (w0 : World) {ok : Nat → Prop} {A : Option Addr} {xs : List Int} {c : Nat} (hr : Rd (.int .u8) w0 ok A xs c) (hb : Bytes xs) : Calls Tryz.prog 38 #[.slice A xs.length c] w0 fun e w' => e = .returned (.tuple #[.int .u64 (numV xs), .bool (numOk xs)]) ∧ Mods (fun _ => False) w0 w' := by
 refine cow Tryz.func38 rfl Tryz.ntmps38 (Nat.le_of_ble_eq_true rfl) fun a F => ?_
 have H := Hp.nil (fun _ => False) w0
 have H := H.arg 901 hr.all (fun _ h => ⟨h, fun h => h⟩)
 have hle901 := hr.le; unfold maxLen at hle901
 refine sr fun _ hK1 => la F rfl (x_assign rfl) fun a F => la F rfl (x_assign rfl) fun a F => wn (hK1 _ _ ?_)
 refine wp_seq_k fun khK2 hK2 => ?_
 refine sr fun _ hK3 => la F rfl (x_move (F.t 0 rfl)) fun a F => la F rfl (x_len_slice Tryz.underlying27 (F.t 7 rfl)) fun a F => la F rfl (x_gtr (F.t 8 rfl) rfl) fun a F => la F rfl (x_move (F.t 9 rfl)) fun a F => ?_
 refine split_bool F 10 rfl (fun hb10 => ?_) (fun hb10 => ?_)
 ·have hc10 := hb10; try simp only [bL] at hc10
  have hno := numOk_long hc10
  refine los F hb10 rfl fun a F => los F hb10 rfl fun a F => los F hb10 rfl fun a F => los F hb10 rfl fun a F => ?_
  refine l_offg F (wanted_un F rfl rfl rfl rfl) rfl rfl fun a F => ?_
  refine l_offg F (wanted_un F rfl rfl rfl rfl) rfl rfl fun a F => ?_
  refine l_offg F (wanted_un F rfl rfl rfl rfl) rfl rfl fun a F => ?_
  refine l_offg F (wanted_un F rfl rfl rfl rfl) rfl rfl fun a F => ?_
  refine los F hb10 rfl fun a F => la F rfl (x_pickT (F.t 10 rfl) hb10 rfl) fun a F => wn (hK3 _ _ ?_)
  refine wp_cond_true (F.t 20 rfl) ?_
  refine sr fun khK4 hK4 => la F rfl (x_assign rfl) fun a F => la F rfl (x_assign rfl) fun a F => wn (hK4 _ _ ?_)
  refine wp_ret ?_
  try simp only [Exit.then, Exit.inBlock]
  exact fin_ret F (res2 F rfl rfl rfl) ⟨by simp only [numV, hno]; rfl, H.mods⟩
 have hc10 := hb10; try simp only [bL] at hc10
 refine lgs F hb10 rfl (x_move (F.t 0 rfl)) fun a F => lgs F hb10 rfl (x_len_slice Tryz.underlying27 (F.t 11 rfl)) fun a F => lgs F hb10 rfl (x_gtr (F.t 12 rfl) rfl) fun a F => lgs F hb10 rfl (x_move (F.t 13 rfl)) fun a F => ?_
 refine split_bool F 14 rfl (fun hb14 => ?_) (fun hb14 => ?_)
 ·have hc14 := hb14; try simp only [bL] at hc14
  refine lgs F hb14 rfl (x_move (F.t 0 rfl)) fun a F => lgs F hb14 rfl (x_iaddr_A Tryz.underlying27 ty5 ((H.rd 901 rfl)) (F.t 15 rfl) rfl (by omega) (by omega) _) fun a F => lgs F hb14 rfl (x_load1 ty5 (F.t 16 rfl) (((H.rd 901 rfl)).cellA (gi_some (i := 0) (by omega) (by omega)))) fun a F => lgs F hb14 rfl (x_eql (F.t 17 rfl) rfl) fun a F => lgs F hb10 rfl (x_pickT (F.t 14 rfl) hb14 (F.t 18 rfl)) fun a F => la F rfl (x_pickF (F.t 10 rfl) hb10 (F.t 19 rfl)) fun a F => wn (hK3 _ _ ?_)
  refine wp_cond_split (F.t 20 rfl) (fun hc20 => ?_) (fun hc20 => ?_)
  ·have hk20_1 := hc20; try simp only [bL] at hc20
   have hno := numOk_zero hc14 hc20
   refine sr fun _ hK5 => la F rfl (x_assign rfl) fun a F => la F rfl (x_assign rfl) fun a F => wn (hK5 _ _ ?_)
   refine wp_ret ?_
   try simp only [Exit.then, Exit.inBlock]
   exact fin_ret F (res2 F rfl rfl rfl) ⟨by simp only [numV, hno]; rfl, H.mods⟩
  have hk20_2 := hc20; try simp only [bL] at hc20
  have hyes := numOk_yes hc10 (.inr hc20)
  refine wp_skip (hK2 _ _ (sr fun khK6 hK6 => la F rfl (x_assign rfl) fun a F => wn (hK6 _ _ ?_)))
  refine wp_seq_k fun _ hK7 => ?_
  refine sr fun _ hK8 => la F rfl (x_move (F.t 0 rfl)) fun a F => la F rfl (x_len_slice Tryz.underlying27 (F.t 21 rfl)) fun a F => la F rfl (x_move rfl) fun a F => wn (hK8 _ _ (wp_block ?_))
  refine wp_loop_ghost (fun n_ a w => ∃ k : Nat, n_ = xs.length - k ∧ (k ≤ xs.length) ∧ Fr 34 a [(4, .int .u64 (numI (xs.take k))), (21, .slice A xs.length c), (22, .int .i64 (xs.length : Int)), (23, .int .i64 (k : Int))] ∧ Hp (fun _ => False) w0 w [(901, .rd_ (.int .u8) A xs c (fun k => k < w0.heap.size))]) (xs.length) ?_ ?_
  ·exact ⟨0, rfl, by omega, ((((F.bare.add F 23 rfl).add F 22 rfl).add F 21 rfl).add F 4 rfl), H.sub _ (sub_cons (sub_nil _) 901 rfl)⟩
  rintro _ a w ⟨k, rfl, hq0_0, F, H⟩
  refine sr fun _ hK9 => la F rfl (x_lss (F.t 23 rfl) (F.t 22 rfl)) fun a F => wn (hK9 _ _ ?_)
  refine wp_seq_k fun _ hK10 => ?_
  refine wp_cond_split (F.t 24 rfl) (fun hc24 => ?_) (fun hc24 => ?_)
  ·have hk24_3 := hc24; try simp only [bL] at hc24
   have hrg := numI_range hb k (by omega)
   have hrp := pow_le8 (show k < 8 by omega)
   have hr0 := hrg.1
   have hr1 : numI (xs.take k) < 72057594037927936 := by omega
   refine wp_skip (hK10 _ _ ?_)
   refine wp_seq_k fun _ hK11 => ?_
   refine wp_block (sr fun _ hK12 => la F rfl (x_iaddr_A Tryz.underlying27 ty5 ((H.rd 901 rfl)) (F.t 21 rfl) (F.t 23 rfl) (by omega) (by omega) _) fun a F => la F rfl (x_load1 ty5 (F.t 25 rfl) (((H.rd 901 rfl)).cellA (gi_some (i := (k : Int)) (by omega) (by omega)))) fun a F => la F rfl (x_assign (F.t 26 rfl)) fun a F => wn (hK12 _ _ ?_))
   refine wp_region_lit ?_
   refine la F rfl (x_move (F.t 4 rfl)) fun a F => la F rfl (x_shl (F.t 27 rfl) rfl (by omega) (shl8 _ hr0 hr1)) fun a F => la F rfl (x_move (F.t 6 rfl)) fun a F => la F rfl (x_conv Tryz.underlying59 ⟨_, Tryz.underlying5⟩ (F.t 29 rfl) (wu64 (by have := (hb.gi (k : Int)).1; omega) (by have := (hb.gi (k : Int)).2; omega))) fun a F => la F rfl (x_bits (by simp) (F.t 28 rfl) (F.t 30 rfl) ((or_byte _ _ hr0 hr1 (hb.gi _).1 (hb.gi _).2).trans (numI_step hc24))) fun a F => la F rfl (x_assign (F.t 31 rfl)) fun a F => wn (hK11 _ _ ?_)
   refine wp_region_lit ?_
   refine la F rfl (x_add (F.t 23 rfl) rfl (w64 (by omega) (by omega))) fun a F => la F rfl (x_move (F.t 32 rfl)) fun a F => ?_
   refine wpList_nil ?_
   exact ⟨_, by omega, ⟨k + 1, rfl, by omega, ((((F.bare.add F 23 rfl).add F 22 rfl).add F 21 rfl).add F 4 rfl), H.sub _ (sub_cons (sub_nil _) 901 rfl)⟩⟩
  have hk24_4 := hc24; try simp only [bL] at hc24
  obtain rfl : k = xs.length := by omega
  rw [List.take_length] at F
  refine wp_exit ?_
  refine hK7 _ _ (sr fun _ hK13 => la F rfl (x_move (F.t 4 rfl)) fun a F => la F rfl (x_assign (F.t 33 rfl)) fun a F => la F rfl (x_assign rfl) fun a F => wn (hK13 _ _ ?_))
  refine wp_ret ?_
  try simp only [Exit.then, Exit.inBlock]
  exact fin_ret F (res2 F rfl rfl rfl) ⟨by simp only [numV, hyes]; rfl, H.mods⟩
 have hc14 := hb14; try simp only [bL] at hc14
 have hyes := numOk_yes hc10 (.inl hc14)
 refine los F hb14 rfl fun a F => los F hb14 rfl fun a F => los F hb14 rfl fun a F => los F hb14 rfl fun a F => lgs F hb10 rfl (x_pickF (F.t 14 rfl) hb14 rfl) fun a F => la F rfl (x_pickF (F.t 10 rfl) hb10 (F.t 19 rfl)) fun a F => wn (hK3 _ _ ?_)
 refine wp_cond_false (F.t 20 rfl) ?_
 refine wp_skip (hK2 _ _ (sr fun _ hK14 => la F rfl (x_assign rfl) fun a F => wn (hK14 _ _ ?_)))
 refine wp_seq_k fun _ hK15 => ?_
 refine sr fun _ hK16 => la F rfl (x_move (F.t 0 rfl)) fun a F => la F rfl (x_len_slice Tryz.underlying27 (F.t 21 rfl)) fun a F => la F rfl (x_move rfl) fun a F => wn (hK16 _ _ (wp_block ?_))
 refine wp_loop_ghost (fun n_ a w => ∃ k : Nat, n_ = xs.length - k ∧ (k ≤ xs.length) ∧ Fr 34 a [(4, .int .u64 (numI (xs.take k))), (21, .slice A xs.length c), (22, .int .i64 (xs.length : Int)), (23, .int .i64 (k : Int))] ∧ Hp (fun _ => False) w0 w [(901, .rd_ (.int .u8) A xs c (fun k => k < w0.heap.size))]) (xs.length) ?_ ?_
 ·exact ⟨0, rfl, by omega, ((((F.bare.add F 23 rfl).add F 22 rfl).add F 21 rfl).add F 4 rfl), H.sub _ (sub_cons (sub_nil _) 901 rfl)⟩
 rintro _ a w ⟨k, rfl, hq0_0, F, H⟩
 refine sr fun _ hK17 => la F rfl (x_lss (F.t 23 rfl) (F.t 22 rfl)) fun a F => wn (hK17 _ _ ?_)
 refine wp_seq_k fun _ hK18 => ?_
 refine wp_cond_split (F.t 24 rfl) (fun hc24 => ?_) (fun hc24 => ?_)
 ·have hk24_5 := hc24; try simp only [bL] at hc24
  have hrg := numI_range hb k (by omega)
  have hrp := pow_le8 (show k < 8 by omega)
  have hr0 := hrg.1
  have hr1 : numI (xs.take k) < 72057594037927936 := by omega
  refine wp_skip (hK18 _ _ ?_)
  refine wp_seq_k fun _ hK19 => ?_
  refine wp_block (sr fun _ hK20 => la F rfl (x_iaddr_A Tryz.underlying27 ty5 ((H.rd 901 rfl)) (F.t 21 rfl) (F.t 23 rfl) (by omega) (by omega) _) fun a F => la F rfl (x_load1 ty5 (F.t 25 rfl) (((H.rd 901 rfl)).cellA (gi_some (i := (k : Int)) (by omega) (by omega)))) fun a F => la F rfl (x_assign (F.t 26 rfl)) fun a F => wn (hK20 _ _ ?_))
  refine wp_region_lit ?_
  refine la F rfl (x_move (F.t 4 rfl)) fun a F => la F rfl (x_shl (F.t 27 rfl) rfl (by omega) (shl8 _ hr0 hr1)) fun a F => la F rfl (x_move (F.t 6 rfl)) fun a F => la F rfl (x_conv Tryz.underlying59 ⟨_, Tryz.underlying5⟩ (F.t 29 rfl) (wu64 (by have := (hb.gi (k : Int)).1; omega) (by have := (hb.gi (k : Int)).2; omega))) fun a F => la F rfl (x_bits (by simp) (F.t 28 rfl) (F.t 30 rfl) ((or_byte _ _ hr0 hr1 (hb.gi _).1 (hb.gi _).2).trans (numI_step hc24))) fun a F => la F rfl (x_assign (F.t 31 rfl)) fun a F => wn (hK19 _ _ ?_)
  refine wp_region_lit ?_
  refine la F rfl (x_add (F.t 23 rfl) rfl (w64 (by omega) (by omega))) fun a F => la F rfl (x_move (F.t 32 rfl)) fun a F => ?_
  refine wpList_nil ?_
  exact ⟨_, by omega, ⟨k + 1, rfl, by omega, ((((F.bare.add F 23 rfl).add F 22 rfl).add F 21 rfl).add F 4 rfl), H.sub _ (sub_cons (sub_nil _) 901 rfl)⟩⟩
 have hk24_6 := hc24; try simp only [bL] at hc24
 obtain rfl : k = xs.length := by omega
 rw [List.take_length] at F
 refine wp_exit ?_
 refine hK15 _ _ (sr fun _ hK21 => la F rfl (x_move (F.t 4 rfl)) fun a F => la F rfl (x_assign (F.t 33 rfl)) fun a F => la F rfl (x_assign rfl) fun a F => wn (hK21 _ _ ?_))
 refine wp_ret ?_
 try simp only [Exit.then, Exit.inBlock]
 exact fin_ret F (res2 F rfl rfl rfl) ⟨by simp only [numV, hyes]; rfl, H.mods⟩
theorem refNum_calls (w0 : World) {ok : Nat → Prop} {A : Option Addr} {xs : List Int} {c : Nat} (hr : Rd (.int .u8) w0 ok A xs c) (hb : Bytes xs) : Calls Tryz.prog 42 #[.slice A xs.length c] w0 fun e w' => e = .returned (.tuple #[.int .u64 (numV xs), .bool (numOk xs)]) ∧ Mods (fun _ => False) w0 w' := by
 refine cow Tryz.func42 rfl Tryz.ntmps42 (Nat.le_of_ble_eq_true rfl) fun a F => ?_
 have H := Hp.nil (fun _ => False) w0
 have H := H.arg 901 hr.all (fun _ h => ⟨h, fun h => h⟩)
 have hle901 := hr.le; unfold maxLen at hle901
 refine sr fun _ hK1 => la F rfl (x_assign rfl) fun a F => la F rfl (x_assign rfl) fun a F => wn (hK1 _ _ ?_)
 refine wp_seq_k fun khK2 hK2 => ?_
 refine sr fun _ hK3 => la F rfl (x_move (F.t 0 rfl)) fun a F => la F rfl (x_len_slice Tryz.underlying27 (F.t 6 rfl)) fun a F => la F rfl (x_gtr (F.t 7 rfl) rfl) fun a F => la F rfl (x_move (F.t 8 rfl)) fun a F => ?_
 refine split_bool F 9 rfl (fun hb9 => ?_) (fun hb9 => ?_)
 ·have hc9 := hb9; try simp only [bL] at hc9
  have hno := numOk_long hc9
  refine los F hb9 rfl fun a F => los F hb9 rfl fun a F => los F hb9 rfl fun a F => los F hb9 rfl fun a F => ?_
  refine l_offg F (wanted_un F rfl rfl rfl rfl) rfl rfl fun a F => ?_
  refine l_offg F (wanted_un F rfl rfl rfl rfl) rfl rfl fun a F => ?_
  refine l_offg F (wanted_un F rfl rfl rfl rfl) rfl rfl fun a F => ?_
  refine l_offg F (wanted_un F rfl rfl rfl rfl) rfl rfl fun a F => ?_
  refine los F hb9 rfl fun a F => la F rfl (x_pickT (F.t 9 rfl) hb9 rfl) fun a F => wn (hK3 _ _ ?_)
  refine wp_cond_true (F.t 19 rfl) ?_
  refine sr fun khK4 hK4 => la F rfl (x_assign rfl) fun a F => la F rfl (x_assign rfl) fun a F => wn (hK4 _ _ ?_)
  refine wp_ret ?_
  try simp only [Exit.then, Exit.inBlock]
  exact fin_ret F (res2 F rfl rfl rfl) ⟨by simp only [numV, hno]; rfl, H.mods⟩
 have hc9 := hb9; try simp only [bL] at hc9
 refine lgs F hb9 rfl (x_move (F.t 0 rfl)) fun a F => lgs F hb9 rfl (x_len_slice Tryz.underlying27 (F.t 10 rfl)) fun a F => lgs F hb9 rfl (x_gtr (F.t 11 rfl) rfl) fun a F => lgs F hb9 rfl (x_move (F.t 12 rfl)) fun a F => ?_
 refine split_bool F 13 rfl (fun hb13 => ?_) (fun hb13 => ?_)
 ·have hc13 := hb13; try simp only [bL] at hc13
  have hc12 := hc13
  refine lgs F hb13 rfl (x_move (F.t 0 rfl)) fun a F => lgs F hb13 rfl (x_iaddr_A Tryz.underlying27 ty5 ((H.rd 901 rfl)) (F.t 14 rfl) rfl (by omega) (by omega) _) fun a F => lgs F hb13 rfl (x_load1 ty5 (F.t 15 rfl) (((H.rd 901 rfl)).cellA (gi_some (i := 0) (by omega) (by omega)))) fun a F => lgs F hb13 rfl (x_eql (F.t 16 rfl) rfl) fun a F => lgs F hb9 rfl (x_pickT (F.t 13 rfl) hb13 (F.t 17 rfl)) fun a F => la F rfl (x_pickF (F.t 9 rfl) hb9 (F.t 18 rfl)) fun a F => wn (hK3 _ _ ?_)
  refine wp_cond_split (F.t 19 rfl) (fun hc19 => ?_) (fun hc19 => ?_)
  ·have hk19_1 := hc19; try simp only [bL] at hc19
   have hno := numOk_zero hc13 hc19
   refine sr fun _ hK5 => la F rfl (x_assign rfl) fun a F => la F rfl (x_assign rfl) fun a F => wn (hK5 _ _ ?_)
   refine wp_ret ?_
   try simp only [Exit.then, Exit.inBlock]
   exact fin_ret F (res2 F rfl rfl rfl) ⟨by simp only [numV, hno]; rfl, H.mods⟩
  have hk19_2 := hc19; try simp only [bL] at hc19
  have hyes := numOk_yes hc9 (.inr hc19)
  refine wp_skip (hK2 _ _ (sr fun khK6 hK6 => la F rfl (x_assign rfl) fun a F => wn (hK6 _ _ ?_)))
  refine wp_seq_k fun _ hK7 => ?_
  refine sr fun _ hK8 => la F rfl (x_assign rfl) fun a F => wn (hK8 _ _ (wp_block ?_))
  refine wp_loop_ghost (fun n_ a w => ∃ k : Nat, n_ = xs.length - k ∧ (k ≤ xs.length) ∧ Fr 35 a [(0, .slice A xs.length c), (4, .int .u64 (numI (xs.take k))), (5, .int .i64 (k : Int))] ∧ Hp (fun _ => False) w0 w [(901, .rd_ (.int .u8) A xs c (fun k => k < w0.heap.size))]) (xs.length) ?_ ?_
  ·exact ⟨0, rfl, by omega, (((F.bare.add F 5 rfl).add F 4 rfl).add F 0 rfl), H.sub _ (sub_cons (sub_nil _) 901 rfl)⟩
  rintro _ a w ⟨k, rfl, hq0_0, F, H⟩
  refine wp_seq_k fun _ hK9 => ?_
  refine sr fun _ hK10 => la F rfl (x_move (F.t 5 rfl)) fun a F => la F rfl (x_move (F.t 0 rfl)) fun a F => la F rfl (x_len_slice Tryz.underlying27 (F.t 21 rfl)) fun a F => la F rfl (x_lss (F.t 20 rfl) (F.t 22 rfl)) fun a F => wn (hK10 _ _ ?_)
  refine wp_cond_split (F.t 23 rfl) (fun hc23 => ?_) (fun hc23 => ?_)
  ·have hk23_3 := hc23; try simp only [bL] at hc23
   have hrg := numI_range hb k (by omega)
   have hrp := pow_le8 (show k < 8 by omega)
   have hr0 := hrg.1
   have hr1 : numI (xs.take k) < 72057594037927936 := by omega
   refine wp_skip (hK9 _ _ ?_)
   refine wp_seq_k fun _ hK11 => ?_
   refine wp_block ?_
   refine wp_region_lit ?_
   refine la F rfl (x_move (F.t 4 rfl)) fun a F => la F rfl (x_mul rfl (F.t 26 rfl) ((congrArg _ (Int.mul_comm _ _)).trans (wu64 (by omega) (by omega)))) fun a F => la F rfl (x_move (F.t 0 rfl)) fun a F => la F rfl (x_move (F.t 5 rfl)) fun a F => la F rfl (x_iaddr_A Tryz.underlying27 ty5 ((H.rd 901 rfl)) (F.t 28 rfl) (F.t 29 rfl) (by omega) (by omega) _) fun a F => la F rfl (x_load1 ty5 (F.t 30 rfl) (((H.rd 901 rfl)).cellA (gi_some (i := (k : Int)) (by omega) (by omega)))) fun a F => la F rfl (x_conv Tryz.underlying59 ⟨_, Tryz.underlying5⟩ (F.t 31 rfl) (wu64 (by have := (hb.gi (k : Int)).1; omega) (by have := (hb.gi (k : Int)).2; omega))) fun a F => la F rfl (x_add (F.t 27 rfl) (F.t 32 rfl) ((wu64 (by have := (hb.gi (k : Int)).1; omega) (by have := (hb.gi (k : Int)).2; omega)).trans (numI_step hc23))) fun a F => ?_
   refine la F rfl (x_assign (F.t 33 rfl)) fun a F => wn (hK11 _ _ ?_)
   refine wp_region_lit ?_
   refine la F rfl (x_move (F.t 5 rfl)) fun a F => la F rfl (x_add (F.t 24 rfl) rfl (w64 (by omega) (by omega))) fun a F => la F rfl (x_assign (F.t 25 rfl)) fun a F => ?_
   refine wpList_nil ?_
   exact ⟨_, by omega, ⟨k + 1, rfl, by omega, (((F.bare.add F 5 rfl).add F 4 rfl).add F 0 rfl), H.sub _ (sub_cons (sub_nil _) 901 rfl)⟩⟩
  have hk23_4 := hc23; try simp only [bL] at hc23
  obtain rfl : k = xs.length := by omega
  rw [List.take_length] at F
  refine wp_exit ?_
  refine hK7 _ _ (sr fun _ hK12 => la F rfl (x_move (F.t 4 rfl)) fun a F => la F rfl (x_assign (F.t 34 rfl)) fun a F => la F rfl (x_assign rfl) fun a F => wn (hK12 _ _ ?_))
  refine wp_ret ?_
  try simp only [Exit.then, Exit.inBlock]
  exact fin_ret F (res2 F rfl rfl rfl) ⟨by simp only [numV, hyes]; rfl, H.mods⟩
 have hc13 := hb13; try simp only [bL] at hc13
 have hyes := numOk_yes hc9 (.inl hc13)
 refine los F hb13 rfl fun a F => los F hb13 rfl fun a F => los F hb13 rfl fun a F => los F hb13 rfl fun a F => lgs F hb9 rfl (x_pickF (F.t 13 rfl) hb13 rfl) fun a F => la F rfl (x_pickF (F.t 9 rfl) hb9 (F.t 18 rfl)) fun a F => wn (hK3 _ _ ?_)
 refine wp_cond_false (F.t 19 rfl) ?_
 refine wp_skip (hK2 _ _ (sr fun _ hK13 => la F rfl (x_assign rfl) fun a F => wn (hK13 _ _ ?_)))
 refine wp_seq_k fun _ hK14 => ?_
 refine sr fun _ hK15 => la F rfl (x_assign rfl) fun a F => wn (hK15 _ _ (wp_block ?_))
 refine wp_loop_ghost (fun n_ a w => ∃ k : Nat, n_ = xs.length - k ∧ (k ≤ xs.length) ∧ Fr 35 a [(0, .slice A xs.length c), (4, .int .u64 (numI (xs.take k))), (5, .int .i64 (k : Int))] ∧ Hp (fun _ => False) w0 w [(901, .rd_ (.int .u8) A xs c (fun k => k < w0.heap.size))]) (xs.length) ?_ ?_
 ·exact ⟨0, rfl, by omega, (((F.bare.add F 5 rfl).add F 4 rfl).add F 0 rfl), H.sub _ (sub_cons (sub_nil _) 901 rfl)⟩
 rintro _ a w ⟨k, rfl, hq0_0, F, H⟩
 refine wp_seq_k fun _ hK16 => ?_
 refine sr fun _ hK17 => la F rfl (x_move (F.t 5 rfl)) fun a F => la F rfl (x_move (F.t 0 rfl)) fun a F => la F rfl (x_len_slice Tryz.underlying27 (F.t 21 rfl)) fun a F => la F rfl (x_lss (F.t 20 rfl) (F.t 22 rfl)) fun a F => wn (hK17 _ _ ?_)
 refine wp_cond_split (F.t 23 rfl) (fun hc23 => ?_) (fun hc23 => ?_)
 ·have hk23_5 := hc23; try simp only [bL] at hc23
  have hrg := numI_range hb k (by omega)
  have hrp := pow_le8 (show k < 8 by omega)
  have hr0 := hrg.1
  have hr1 : numI (xs.take k) < 72057594037927936 := by omega
  refine wp_skip (hK16 _ _ ?_)
  refine wp_seq_k fun _ hK18 => ?_
  refine wp_block ?_
  refine wp_region_lit ?_
  refine la F rfl (x_move (F.t 4 rfl)) fun a F => la F rfl (x_mul rfl (F.t 26 rfl) ((congrArg _ (Int.mul_comm _ _)).trans (wu64 (by omega) (by omega)))) fun a F => la F rfl (x_move (F.t 0 rfl)) fun a F => la F rfl (x_move (F.t 5 rfl)) fun a F => la F rfl (x_iaddr_A Tryz.underlying27 ty5 ((H.rd 901 rfl)) (F.t 28 rfl) (F.t 29 rfl) (by omega) (by omega) _) fun a F => la F rfl (x_load1 ty5 (F.t 30 rfl) (((H.rd 901 rfl)).cellA (gi_some (i := (k : Int)) (by omega) (by omega)))) fun a F => la F rfl (x_conv Tryz.underlying59 ⟨_, Tryz.underlying5⟩ (F.t 31 rfl) (wu64 (by have := (hb.gi (k : Int)).1; omega) (by have := (hb.gi (k : Int)).2; omega))) fun a F => la F rfl (x_add (F.t 27 rfl) (F.t 32 rfl) ((wu64 (by have := (hb.gi (k : Int)).1; omega) (by have := (hb.gi (k : Int)).2; omega)).trans (numI_step hc23))) fun a F => ?_
  refine la F rfl (x_assign (F.t 33 rfl)) fun a F => wn (hK18 _ _ ?_)
  refine wp_region_lit ?_
  refine la F rfl (x_move (F.t 5 rfl)) fun a F => la F rfl (x_add (F.t 24 rfl) rfl (w64 (by omega) (by omega))) fun a F => la F rfl (x_assign (F.t 25 rfl)) fun a F => ?_
  refine wpList_nil ?_
  exact ⟨_, by omega, ⟨k + 1, rfl, by omega, (((F.bare.add F 5 rfl).add F 4 rfl).add F 0 rfl), H.sub _ (sub_cons (sub_nil _) 901 rfl)⟩⟩
 have hk23_6 := hc23; try simp only [bL] at hc23
 obtain rfl : k = xs.length := by omega
 rw [List.take_length] at F
 refine wp_exit ?_
 refine hK14 _ _ (sr fun _ hK19 => la F rfl (x_move (F.t 4 rfl)) fun a F => la F rfl (x_assign (F.t 34 rfl)) fun a F => la F rfl (x_assign rfl) fun a F => wn (hK19 _ _ ?_))
 refine wp_ret ?_
 try simp only [Exit.then, Exit.inBlock]
 exact fin_ret F (res2 F rfl rfl rfl) ⟨by simp only [numV, hyes]; rfl, H.mods⟩
theorem clone_calls (w0 : World) {ok : Nat → Prop} {A : Option Addr} {xs : List Int} {c : Nat} (hr : Rd (.int .u8) w0 ok A xs c) (hs : xs.length ≤ 100000000) : Calls Tryz.prog 73 #[.slice A xs.length c] w0 fun e w' => ∃ v, e = .returned v ∧ Mods (fun _ => False) w0 w' ∧ RowOut (.int .u8) 5 w0 w' v xs := by
 refine cow Tryz.func73 rfl Tryz.ntmps73 (Nat.le_of_ble_eq_true rfl) fun a F => ?_
 have H := Hp.nil (fun _ => False) w0
 have H := H.arg 901 hr.all (fun _ h => ⟨h, fun h => h⟩)
 have hle901 := hr.le; unfold maxLen at hle901
 refine sr fun _ hK1 => la F rfl (x_assign rfl) fun a F => wn (hK1 _ _ ?_)
 refine wp_seq_k fun khK2 hK2 => ?_
 refine sr fun _ hK3 => la F rfl (x_move (F.t 0 rfl)) fun a F => la F rfl (x_slnil Tryz.underlying27 (F.t 3 rfl) rfl) fun a F => wn (hK3 _ _ ?_)
 refine wp_cond_split (F.t 4 rfl) (fun hc4 => ?_) (fun hc4 => ?_)
 ·have hk4_1 := hc4; try simp only [bL] at hc4
  have hnil := rd_nil hr hc4
  subst hnil
  refine sr fun khK4 hK4 => la F rfl (x_assign rfl) fun a F => wn (hK4 _ _ ?_)
  refine wp_ret ?_
  try simp only [Exit.then, Exit.inBlock]
  exact fin_ret F (res1 F rfl rfl) ⟨.slice none 0 0, rfl, H.mods, RowOut.nil _ _ _ _⟩
 have hk4_2 := hc4; try simp only [bL] at hc4
 refine wp_skip (hK2 _ _ (sr fun _ hK5 => ?_))
 refine lp rfl ?_
 refine w_lit0 (.int .u8) 5 F H rfl Tryz.underlying27 ty5 ?_
 clear F H; intro a w b5 F H
 refine la F rfl (x_move (F.t 0 rfl)) fun a F => ?_
 refine lp rfl ?_
 refine w_append 5 901 (xs := ([])) (ys := xs) F H rfl Tryz.underlying27 ty5 rfl rfl rfl rfl ((H.rd 901 rfl)) oI (F.t 5 rfl) (F.t 6 rfl) (by simp only [lN] at *; omega) (by simp only [lN, maxLen] at *; omega) (fun _ => False) (fun w' v' h => row_flat h _) (fun k_ hk_ => hk_.elim) ?_
 clear F H; intro a w v7 F H
 refine la F rfl (x_assign (F.t 7 rfl)) fun a F => wn (hK5 _ _ ?_)
 refine wp_ret ?_
 try simp only [Exit.then, Exit.inBlock]
 rw [List.nil_append] at H
 exact fin_ret F (res1 F rfl rfl) ⟨_, rfl, H.mods, Hp.out H 5 rfl⟩
theorem find_calls (w0 : World) (tag : Int) {ok : Nat → Prop} {A : Option Addr} {xs : List Fld} {c : Nat} (hr : Rd FE w0 ok A xs c) (hsh : short xs = true) : Calls Tryz.prog 37 #[.slice A xs.length c, .int .i64 tag] w0 fun e w' => ∃ v, e = .returned (.tuple #[v, .bool (findI xs tag).isSome]) ∧ Mods (fun _ => False) w0 w' ∧ RowOut (.int .u8) 5 w0 w' v ((findI xs tag).getD []) := by
 refine cow Tryz.func37 rfl Tryz.ntmps37 (Nat.le_of_ble_eq_true rfl) fun a F => ?_
 have H := Hp.nil (fun _ => False) w0
 have H := H.arg 901 hr.all (fun _ h => ⟨h, fun h => h⟩)
 have hle901 := hr.le; unfold maxLen at hle901
 refine sr fun _ hK1 => la F rfl (x_assign rfl) fun a F => la F rfl (x_assign rfl) fun a F => wn (hK1 _ _ ?_)
 refine wp_seq_k fun khK2 hK2 => ?_
 refine sr fun _ hK3 => la F rfl (x_move (F.t 0 rfl)) fun a F => la F rfl (x_len_slice Tryz.underlying60 (F.t 8 rfl)) fun a F => la F rfl (x_move rfl) fun a F => wn (hK3 _ _ (wp_block ?_))
 refine wp_loop_ghost (fun n_ a w => ∃ k : Nat, n_ = xs.length - k ∧ (k ≤ xs.length) ∧ (findI (xs.take k) tag = none) ∧ Fr 22 a [(1, .int .i64 tag), (8, .slice A xs.length c), (9, .int .i64 (xs.length : Int)), (10, .int .i64 (k : Int))] ∧ Hp (fun _ => False) w0 w [(901, .rd_ FE A xs c (fun k => k < w0.heap.size))]) (xs.length) ?_ ?_
 ·exact ⟨0, rfl, by omega, rfl, ((((F.bare.add F 10 rfl).add F 9 rfl).add F 8 rfl).add F 1 rfl), H.sub _ (sub_cons (sub_nil _) 901 rfl)⟩
 rintro _ a w ⟨k, rfl, hq0_0, hq0_1, F, H⟩
 refine sr fun khK4 hK4 => la F rfl (x_lss (F.t 10 rfl) (F.t 9 rfl)) fun a F => wn (hK4 _ _ ?_)
 refine wp_seq_k fun _ hK5 => ?_
 refine wp_cond_split (F.t 11 rfl) (fun hc11 => ?_) (fun hc11 => ?_)
 ·have hk11_1 := hc11; try simp only [bL] at hc11
  refine wp_skip (hK5 _ _ ?_)
  refine wp_seq_k fun khK6 hK6 => ?_
  refine wp_block (sr fun _ hK7 => ?_)
  obtain ⟨fA1, fc1, hfr1, hf1_0, hf1_1, hfw1⟩ := Rd.fld ((H.rd 901 rfl)) (gf_some (xs := xs) (i := (k : Int)) (by omega) (by omega))
  have H := H.subrd 901 rfl 1001 hfr1 (fun _ h => h)
  have H := H.subcels 901 rfl 1499 hfw1 (Rd.inok ((H.rd 901 rfl)) (by omega) _)
  have H := H.subcel 901 rfl 1500 hf1_0 (Rd.inok ((H.rd 901 rfl)) (by omega) _)
  have H := H.subcel 901 rfl 1501 hf1_1 (Rd.inok ((H.rd 901 rfl)) (by omega) _)
  refine la F rfl (x_iaddr_A Tryz.underlying60 ty57 ((H.rd 901 rfl)) (F.t 8 rfl) (F.t 10 rfl) (by omega) (by omega) _) fun a F => la F rfl (x_loadn ty57 (F.t 12 rfl) rfl (H.holds 1499 _ rfl)) fun a F => ?_
  refine lp rfl ?_
  refine w_alloc 7 F H rfl ty57 ?_
  clear F H; intro a w b7 F H
  refine lp rfl ?_
  refine w_storeA 7 H ty57 rfl (F.t 7 rfl) (F.t 13 rfl) rfl (by simp [Value.cells, Value.oneCell']) rfl ?_
  clear H; intro w H
  refine wn (hK7 _ _ (sr fun _ hK8 => la F rfl (x_faddr Tryz.underlying57 rfl ty3 (by decide) (F.t 7 rfl) rfl) fun a F => la F rfl (x_load1 ty3 (F.t 14 rfl) (blk_cell (H.at 7 rfl) 0 rfl)) fun a F => la F rfl (x_move (F.t 1 rfl)) fun a F => la F rfl (x_eql (F.t 15 rfl) (F.t 16 rfl)) fun a F => wn (hK8 _ _ ?_)))
  refine wp_cond_split (F.t 17 rfl) (fun hc17 => ?_) (fun hc17 => ?_)
  ·have hk17_2 := hc17; try simp only [bL] at hc17
   have hres := find_at hc11 hq0_1 hc17
   refine sr fun _ hK9 => la F rfl (x_faddr Tryz.underlying57 rfl ty27 (by decide) (F.t 7 rfl) rfl) fun a F => la F rfl (x_load1 ty27 (F.t 18 rfl) (blk_cell (H.at 7 rfl) 1 rfl)) fun a F => ?_
   refine lp rfl ?_
   refine w_call F (x_enter Tryz.func73 (by kernel_rfl) rfl (by simp only [bM, F.t 19 rfl] <;> rfl)) (clone_calls _ ((H.rd 1001 rfl)) (by have := short_gf hsh hc11; omega)) rfl rfl ?_
   rintro _ w ⟨v20, rfl, hm_, hr_⟩; refine ⟨_, rfl, ?_⟩; clear F; intro a F; have H := Hp.rowOut H 20 hm_ hr_
   refine la F rfl (x_assign (F.t 20 rfl)) fun a F => la F rfl (x_assign rfl) fun a F => wn (hK9 _ _ ?_)
   refine wp_ret ?_
   try simp only [Exit.then, Exit.inBlock]
   exact fin_ret F (res2 F rfl rfl rfl) ⟨v20, by rw [hres] <;> rfl, H.mods, by rw [hres]; exact Hp.out H 20 rfl⟩
  have hk17_3 := hc17; try simp only [bL] at hc17
  refine wp_skip (hK6 _ _ ?_)
  refine wp_region_lit ?_
  refine la F rfl (x_add (F.t 10 rfl) rfl (w64 (by omega) (by omega))) fun a F => la F rfl (x_move (F.t 21 rfl)) fun a F => ?_
  refine wpList_nil ?_
  exact ⟨_, by omega, ⟨k + 1, rfl, by omega, find_step hc11 hq0_1 hc17, ((((F.bare.add F 10 rfl).add F 9 rfl).add F 8 rfl).add F 1 rfl), H.sub _ (sub_cons (sub_nil _) 901 rfl)⟩⟩
 have hk11_4 := hc11; try simp only [bL] at hc11
 obtain rfl : k = xs.length := by omega
 rw [List.take_length] at hq0_1
 have hres := find_none hq0_1
 refine wp_exit ?_
 refine hK2 _ _ (sr fun _ hK10 => la F rfl (x_assign rfl) fun a F => la F rfl (x_assign rfl) fun a F => wn (hK10 _ _ ?_))
 refine wp_ret ?_
 try simp only [Exit.then, Exit.inBlock]
 exact fin_ret F (res2 F rfl rfl rfl) ⟨.slice none 0 0, by rw [hres] <;> rfl, H.mods, by rw [hres]; exact RowOut.nil _ _ _ _⟩
def lit8 : ByteArray := ⟨#[0, 1, 2, 2, 3, 3, 3, 3, 4, 4, 4, 4, 4, 4, 4, 4, 5, 5, 5, 5, 5, 5, 5, 5, 5, 5, 5, 5, 5, 5, 5, 5, 6, 6, 6, 6, 6, 6, 6, 6, 6, 6, 6, 6, 6, 6, 6, 6, 6, 6, 6, 6, 6, 6, 6, 6, 6, 6, 6, 6, 6, 6, 6, 6, 7, 7, 7, 7, 7, 7, 7, 7, 7, 7, 7, 7, 7, 7, 7, 7, 7, 7, 7, 7, 7, 7, 7, 7, 7, 7, 7, 7, 7, 7, 7, 7, 7, 7, 7, 7, 7, 7, 7, 7, 7, 7, 7, 7, 7, 7, 7, 7, 7, 7, 7, 7, 7, 7, 7, 7, 7, 7, 7, 7, 7, 7, 7, 7, 8, 8, 8, 8, 8, 8, 8, 8, 8, 8, 8, 8, 8, 8, 8, 8, 8, 8, 8, 8, 8, 8, 8, 8, 8, 8, 8, 8, 8, 8, 8, 8, 8, 8, 8, 8, 8, 8, 8, 8, 8, 8, 8, 8, 8, 8, 8, 8, 8, 8, 8, 8, 8, 8, 8, 8, 8, 8, 8, 8, 8, 8, 8, 8, 8, 8, 8, 8, 8, 8, 8, 8, 8, 8, 8, 8, 8, 8, 8, 8, 8, 8, 8, 8, 8, 8, 8, 8, 8, 8, 8, 8, 8, 8, 8, 8, 8, 8, 8, 8, 8, 8, 8, 8, 8, 8, 8, 8, 8, 8, 8, 8, 8, 8, 8, 8, 8, 8, 8, 8, 8, 8, 8, 8, 8, 8, 8, 8]⟩
theorem lit8_le : 256 ≤ lit8.size := by decide +kernel
theorem lit8_all : ∀ m : Fin 256, (lit8[m.val]'(Nat.lt_of_lt_of_le m.isLt lit8_le)).toNat = lenT m.val := by decide +kernel
theorem lit8_at {n : Nat} (h : n < 256) : ∃ u : UInt8, lit8[n]? = some u ∧ u.toNat = lenT n :=
 ⟨lit8[n]'(Nat.lt_of_lt_of_le h lit8_le), getElem?_pos lit8 n _, lit8_all ⟨n, h⟩⟩
theorem len_calls (w0 : World) (n : Nat) (hn : n < 18446744073709551616) : Calls Tryz.prog 66 #[.int .u64 (n : Int)] w0 fun e w' => ∃ l : Nat, e = .returned (.int .i64 (l : Int)) ∧ l ≤ 64 ∧ (l + 7) / 8 = nb n ∧ Mods (fun _ => False) w0 w' := by
 refine cow Tryz.func66 rfl Tryz.ntmps66 (Nat.le_of_ble_eq_true rfl) fun a F => ?_
 have H := Hp.nil (fun _ => False) w0
 refine sr fun _ hK1 => la F rfl (x_assign rfl) fun a F => wn (hK1 _ _ ?_)
 refine wp_seq_k fun khK2 hK2 => ?_
 refine sr fun _ hK3 => la F rfl (x_move (F.t 0 rfl)) fun a F => la F rfl (x_geq (F.t 3 rfl) rfl) fun a F => wn (hK3 _ _ ?_)
 have hJ4 : ∀ a w, ∀ x1 : Nat, ∀ s1 : Nat, (x1 < 4294967296) → (s1 % 8 = 0) → (s1 ≤ 32) → (nb n = s1 / 8 + nb x1) → Fr 25 a [(0, .int .u64 (x1 : Int)), (2, .int .i64 (s1 : Int))] → Hp (fun _ => False) w0 w [] → khK2 a w := by
  intro a w x1 s1 hj4_0 hj4_1 hj4_2 hj4_3 F H
  refine hK2 a w ?_
  refine wp_seq_k fun khK4 hK4 => ?_
  refine sr fun _ hK5 => la F rfl (x_move (F.t 0 rfl)) fun a F => la F rfl (x_geq (F.t 7 rfl) rfl) fun a F => wn (hK5 _ _ ?_)
  have hJ8 : ∀ a w, ∀ x2 : Nat, ∀ s2 : Nat, (x2 < 65536) → (s2 % 8 = 0) → (s2 ≤ 48) → (nb n = s2 / 8 + nb x2) → Fr 25 a [(0, .int .u64 (x2 : Int)), (2, .int .i64 (s2 : Int))] → Hp (fun _ => False) w0 w [] → khK4 a w := by
   intro a w x2 s2 hj8_0 hj8_1 hj8_2 hj8_3 F H
   refine hK4 a w ?_
   refine wp_seq_k fun khK6 hK6 => ?_
   refine sr fun _ hK7 => la F rfl (x_move (F.t 0 rfl)) fun a F => la F rfl (x_geq (F.t 13 rfl) rfl) fun a F => wn (hK7 _ _ ?_)
   have hJ14 : ∀ a w, ∀ x3 : Nat, ∀ s3 : Nat, (x3 < 256) → (s3 % 8 = 0) → (s3 ≤ 56) → (nb n = s3 / 8 + nb x3) → Fr 25 a [(0, .int .u64 (x3 : Int)), (2, .int .i64 (s3 : Int))] → Hp (fun _ => False) w0 w [] → khK6 a w := by
    intro a w x3 s3 hj14_0 hj14_1 hj14_2 hj14_3 F H
    refine hK6 a w ?_
    refine sr fun _ hK8 => la F rfl (x_move (F.t 2 rfl)) fun a F => la F rfl (x_move (F.t 0 rfl)) fun a F => ?_
    obtain ⟨u8, hu8, hu8n⟩ := lit8_at hj14_0
    have hlt := lenT_nb hj14_0
    refine la F rfl (x_conv Tryz.underlying5 ⟨_, Tryz.underlying59⟩ (F.t 20 rfl) (wu8 (by omega) (by omega))) fun a F => la F rfl (x_indexS Tryz.underlying9 (s := lit8) (by kernel_rfl) (F.t 21 rfl) hu8) fun a F => la F rfl (x_conv Tryz.underlying3 ⟨_, Tryz.underlying5⟩ (F.t 22 rfl) (w64 (by omega) (by omega))) fun a F => ?_
    rw [hu8n] at F
    refine la F rfl (x_add (F.t 19 rfl) (F.t 23 rfl) (w64 (by omega) (by omega))) fun a F => la F rfl (x_assign (F.t 24 rfl)) fun a F => wn (hK8 _ _ ?_)
    refine wp_ret ?_
    try simp only [Exit.then, Exit.inBlock]
    exact fin_ret F (res1 F rfl rfl) ⟨s3 + lenT x3, rfl, by omega, by omega, H.mods⟩
   refine wp_cond_split (F.t 14 rfl) (fun hc14 => ?_) (fun hc14 => ?_)
   ·have hk14_1 := hc14; try simp only [bL] at hc14
    have hj_1 : x2 / 256 < 256 := by omega
    have hj_2 : (s2 + 8) % 8 = 0 := by omega
    have hj_3 : s2 + 8 ≤ 56 := by omega
    have hj_4 : nb n = (s2 + 8) / 8 + nb (x2 / 256) := by rw [hj8_3, nb_8 (by omega) (by omega)] <;> omega
    refine sr fun _ hK9 => la F rfl (x_move (F.t 0 rfl)) fun a F => la F rfl (x_shr (F.t 15 rfl) rfl (by omega) (sh8 x2)) fun a F => la F rfl (x_assign (F.t 16 rfl)) fun a F => wn (hK9 _ _ ?_)
    refine wp_region_lit ?_
    refine la F rfl (x_move (F.t 2 rfl)) fun a F => la F rfl (x_add (F.t 17 rfl) rfl (w64 (by omega) (by omega))) fun a F => la F rfl (x_assign (F.t 18 rfl)) fun a F => ?_
    refine wpList_nil ?_
    exact hJ14 _ _ _ _ hj_1 hj_2 hj_3 hj_4 ((F.bare.add F 2 rfl).add F 0 rfl) (H.sub _ (sub_nil _))
   have hk14_2 := hc14; try simp only [bL] at hc14
   have hj_1 : x2 < 256 := by omega
   have hj_2 : (s2) % 8 = 0 := by omega
   have hj_3 : s2 ≤ 56 := by omega
   have hj_4 : nb n = (s2) / 8 + nb x2 := by rw [hj8_3]
   refine wp_skip ?_
   exact hJ14 _ _ _ _ hj_1 hj_2 hj_3 hj_4 ((F.bare.add F 2 rfl).add F 0 rfl) (H.sub _ (sub_nil _))
  refine wp_cond_split (F.t 8 rfl) (fun hc8 => ?_) (fun hc8 => ?_)
  ·have hk8_3 := hc8; try simp only [bL] at hc8
   have hj_1 : x1 / 65536 < 65536 := by omega
   have hj_2 : (s1 + 16) % 8 = 0 := by omega
   have hj_3 : s1 + 16 ≤ 48 := by omega
   have hj_4 : nb n = (s1 + 16) / 8 + nb (x1 / 65536) := by rw [hj4_3, nb_16 (by omega) (by omega)] <;> omega
   refine sr fun _ hK10 => la F rfl (x_move (F.t 0 rfl)) fun a F => la F rfl (x_shr (F.t 9 rfl) rfl (by omega) (sh16 x1)) fun a F => la F rfl (x_assign (F.t 10 rfl)) fun a F => wn (hK10 _ _ ?_)
   refine wp_region_lit ?_
   refine la F rfl (x_move (F.t 2 rfl)) fun a F => la F rfl (x_add (F.t 11 rfl) rfl (w64 (by omega) (by omega))) fun a F => la F rfl (x_assign (F.t 12 rfl)) fun a F => ?_
   refine wpList_nil ?_
   exact hJ8 _ _ _ _ hj_1 hj_2 hj_3 hj_4 ((F.bare.add F 2 rfl).add F 0 rfl) (H.sub _ (sub_nil _))
  have hk8_4 := hc8; try simp only [bL] at hc8
  have hj_1 : x1 < 65536 := by omega
  have hj_2 : (s1) % 8 = 0 := by omega
  have hj_3 : s1 ≤ 48 := by omega
  have hj_4 : nb n = (s1) / 8 + nb x1 := by rw [hj4_3]
  refine wp_skip ?_
  exact hJ8 _ _ _ _ hj_1 hj_2 hj_3 hj_4 ((F.bare.add F 2 rfl).add F 0 rfl) (H.sub _ (sub_nil _))
 refine wp_cond_split (F.t 4 rfl) (fun hc4 => ?_) (fun hc4 => ?_)
 ·have hk4_5 := hc4; try simp only [bL] at hc4
  have hj_1 : n / 4294967296 < 4294967296 := by omega
  have hj_2 : (32) % 8 = 0 := by omega
  have hj_3 : 32 ≤ 32 := by omega
  have hj_4 : nb n = (32) / 8 + nb (n / 4294967296) := by rw [nb_32 (by omega) (by omega)] <;> omega
  refine sr fun _ hK11 => la F rfl (x_move (F.t 0 rfl)) fun a F => la F rfl (x_shr (F.t 5 rfl) rfl (by omega) (sh32 n)) fun a F => la F rfl (x_assign (F.t 6 rfl)) fun a F => wn (hK11 _ _ ?_)
  refine wp_region_lit ?_
  refine la F rfl (x_assign rfl) fun a F => ?_
  refine wpList_nil ?_
  exact hJ4 _ _ _ _ hj_1 hj_2 hj_3 hj_4 ((F.bare.add F 2 rfl).add F 0 rfl) (H.sub _ (sub_nil _))
 have hk4_6 := hc4; try simp only [bL] at hc4
 have hj_1 : n < 4294967296 := by omega
 have hj_2 : (0) % 8 = 0 := by omega
 have hj_3 : 0 ≤ 32 := by omega
 have hj_4 : nb n = (0) / 8 + nb n := by simp
 refine wp_skip ?_
 exact hJ4 _ _ _ _ hj_1 hj_2 hj_3 hj_4 ((F.bare.add F 2 rfl).add F 0 rfl) (H.sub _ (sub_nil _))
theorem bytes_calls (w0 : World) (n : Nat) (hn : n < 18446744073709551616) : Calls Tryz.prog 28 #[.int .u64 (n : Int)] w0 fun e w' => ∃ v, e = .returned v ∧ Mods (fun _ => False) w0 w' ∧ RowOut (.int .u8) 5 w0 w' v (bytesI n) := by
 refine cow Tryz.func28 rfl Tryz.ntmps28 (Nat.le_of_ble_eq_true rfl) fun a F => ?_
 have H := Hp.nil (fun _ => False) w0
 refine sr fun _ hK1 => la F rfl (x_assign rfl) fun a F => wn (hK1 _ _ (sr fun khK2 hK2 => la F rfl (x_assign rfl) fun a F => ?_))
 have H := H.row0 3 (.int .u8) 5
 refine wn (hK2 _ _ ?_)
 refine wp_seq_k fun _ hK3 => ?_
 refine sr fun khK4 hK4 => la F rfl (x_move (F.t 0 rfl)) fun a F => ?_
 refine lp rfl ?_
 refine w_call F (x_enter Tryz.func66 (by kernel_rfl) rfl (by simp only [bM, F.t 5 rfl] <;> rfl)) (len_calls _ n hn) rfl rfl ?_
 rintro _ w ⟨l, rfl, hl64, hlnb, hm_⟩; refine ⟨_, rfl, ?_⟩; clear F; intro a F; have H := H.same hm_
 refine la F rfl (x_add (F.t 6 rfl) rfl (w64 (by omega) (by omega))) fun a F => la F rfl (x_quo (F.t 7 rfl) rfl (by decide) (quo8 hl64 hlnb)) fun a F => ?_
 have hnb := nb_le n
 refine la F rfl (x_assign (F.t 8 rfl)) fun a F => wn (hK4 _ _ (wp_block ?_))
 refine wp_loop_ghost (fun n_ a w => ∃ k : Nat, ∃ ys : List Int, ∃ v3 : Value, n_ = 9 + k ∧ (k ≤ nb n) ∧ (ys ++ bts n k = bts n (nb n)) ∧ (ys.length ≤ 8 - k) ∧ Fr 23 a [(0, .int .u64 (n : Int)), (3, v3), (4, .int .i64 (k : Int))] ∧ Hp (fun _ => False) w0 w [(3, .row (.int .u8) 5 v3 ys (fun _ => False))]) (9 + nb n) ?_ ?_
 ·exact ⟨nb n, [], .slice none 0 0, rfl, by omega, rfl, by simp, (((F.bare.add F 4 rfl).add F 3 rfl).add F 0 rfl), H.sub _ (sub_cons (sub_nil _) 3 rfl)⟩
 rintro _ a w ⟨k, ys, v3, rfl, hq0_0, hq0_1, hq0_2, F, H⟩
 refine wp_seq_k fun _ hK5 => ?_
 refine sr fun khK6 hK6 => la F rfl (x_move (F.t 4 rfl)) fun a F => la F rfl (x_gtr (F.t 9 rfl) rfl) fun a F => wn (hK6 _ _ ?_)
 refine wp_cond_split (F.t 10 rfl) (fun hc10 => ?_) (fun hc10 => ?_)
 ·have hk10_1 := hc10; try simp only [bL] at hc10
  refine wp_skip (hK5 _ _ ?_)
  refine wp_seq_k fun _ hK7 => ?_
  refine wp_block ?_
  refine wp_region_lit ?_
  refine la F rfl (x_move (F.t 3 rfl)) fun a F => la F rfl (x_move (F.t 0 rfl)) fun a F => la F rfl (x_move (F.t 4 rfl)) fun a F => la F rfl (x_mul rfl (F.t 15 rfl) (w64 (by omega) (by omega))) fun a F => la F rfl (x_sub (F.t 16 rfl) rfl (w64 (by omega) (by omega))) fun a F => la F rfl (x_shr (F.t 14 rfl) (F.t 17 rfl) (by omega) (shrB (by omega) (by omega))) fun a F => la F rfl (x_conv Tryz.underlying5 ⟨_, Tryz.underlying59⟩ (F.t 18 rfl) (digW _ _)) fun a F => ?_
  refine lp rfl ?_
  refine w_lit 20 (enc := Value.int .u8) (h1 := fun _ => rfl) ([dig n (k - 1)]) F H rfl Tryz.underlying27 ty5 (by simp only [bM, F.t 19 rfl]; rfl) rfl (by decide) (by decide) (by kernel_rfl) ?_
  clear F H; intro a w b20 F H
  refine lp rfl ?_
  refine w_append 3 20 (xs := ys) (ys := ([dig n (k - 1)])) F H rfl Tryz.underlying27 ty5 rfl rfl rfl rfl (Row.rd (ok' := fun k_ => (fun _ => False) k_ ∨ (.slice (some ⟨b20, 0, none⟩) ([dig n (k - 1)]).length ([dig n (k - 1)]).length : Value).ownBlock = some k_) (H.row 20 rfl) (fun _ hk_ _ => .inl hk_) (fun _ hk_ => .inr hk_)) (by rintro k_ (hk_ | hk_); exact .inr hk_; exact .inl hk_) (F.t 13 rfl) (F.t 20 rfl) (by simp only [lN] at *; omega) (by simp only [lN, maxLen] at *; omega) (fun _ => False) (fun w' v' h => row_flat h _) (fun k_ hk_ => hk_.elim) ?_
  clear F H; intro a w v21 F H
  refine la F rfl (x_assign (F.t 21 rfl)) fun a F => wn (hK7 _ _ ?_)
  refine wp_region_lit ?_
  refine la F rfl (x_move (F.t 4 rfl)) fun a F => la F rfl (x_sub (F.t 11 rfl) rfl (w64 (by omega) (by omega))) fun a F => la F rfl (x_assign (F.t 12 rfl)) fun a F => ?_
  refine wpList_nil ?_
  have hFs : Fr 23 a [(0, .int .u64 (n : Int)), (3, v21), (4, .int .i64 ((k : Int) - 1))] := (((F.bare.add F 4 rfl).add F 3 rfl).add F 0 rfl)
  rw [show ((k : Int) - 1) = ((k - 1 : Nat) : Int) by omega] at hFs
  exact ⟨_, by omega, ⟨k - 1, ys ++ [dig n (k - 1)], v21, rfl, by omega, bts_step (by omega) hq0_1, by simp only [List.length_append, List.length_cons, List.length_nil]; omega, hFs, H.sub _ (sub_cons (sub_nil _) 3 rfl)⟩⟩
 have hk10_2 := hc10; try simp only [bL] at hc10
 obtain rfl : k = 0 := by omega
 have hys : ys = bytesI n := by simpa [bts, bytesI] using hq0_1
 subst hys
 refine wp_exit ?_
 refine hK3 _ _ (sr fun _ hK8 => la F rfl (x_move (F.t 3 rfl)) fun a F => la F rfl (x_assign (F.t 22 rfl)) fun a F => wn (hK8 _ _ ?_))
 refine wp_ret ?_
 try simp only [Exit.then, Exit.inBlock]
 exact fin_ret F (res1 F rfl rfl) ⟨_, rfl, H.mods, Hp.out H 3 rfl⟩
theorem refBytes_calls (w0 : World) (n : Nat) (hn : n < 18446744073709551616) : Calls Tryz.prog 32 #[.int .u64 (n : Int)] w0 fun e w' => ∃ v, e = .returned v ∧ Mods (fun _ => False) w0 w' ∧ RowOut (.int .u8) 5 w0 w' v (bytesI n) := by
 refine cow Tryz.func32 rfl Tryz.ntmps32 (Nat.le_of_ble_eq_true rfl) fun a F => ?_
 have H := Hp.nil (fun _ => False) w0
 refine sr fun _ hK1 => la F rfl (x_assign rfl) fun a F => wn (hK1 _ _ (sr fun khK2 hK2 => la F rfl (x_assign rfl) fun a F => ?_))
 have H := H.row0 3 (.int .u8) 5
 have e0 : (n : Int) = ((n / 256 ^ 0 : Nat) : Int) := by simp
 rw [e0] at F
 refine wn (hK2 _ _ ?_)
 refine wp_seq_k fun _ hK3 => ?_
 refine wp_block ?_
 refine wp_loop_ghost (fun n_ a w => ∃ j : Nat, ∃ v3 : Value, n_ = 8 - j ∧ (j ≤ 8) ∧ (j = 0 ∨ n / 256 ^ (j - 1) ≠ 0) ∧ Fr 15 a [(0, .int .u64 ((n / 256 ^ j : Nat) : Int)), (3, v3)] ∧ Hp (fun _ => False) w0 w [(3, .row (.int .u8) 5 v3 (bts n j) (fun _ => False))]) (8) ?_ ?_
 ·exact ⟨0, .slice none 0 0, rfl, by omega, .inl rfl, ((F.bare.add F 3 rfl).add F 0 rfl), H.sub _ (sub_cons (sub_nil _) 3 rfl)⟩
 rintro _ a w ⟨j, v3, rfl, hq0_0, hq0_1, F, H⟩
 refine wp_seq_k fun khK4 hK4 => ?_
 refine sr fun _ hK5 => la F rfl (x_move (F.t 0 rfl)) fun a F => la F rfl (x_gtr (F.t 4 rfl) rfl) fun a F => wn (hK5 _ _ ?_)
 refine wp_cond_split (F.t 5 rfl) (fun hc5 => ?_) (fun hc5 => ?_)
 ·have hk5_1 := hc5; try simp only [bL] at hc5
  have hnz : 0 < n / 256 ^ j := Int.natCast_pos.1 hc5
  have hj8 := j_lt8 hn hq0_0 hnz
  obtain ⟨A3, c3, rfl⟩ := (H.row 3 rfl).form
  refine wp_skip (hK4 _ _ (wp_block (sr fun khK6 hK6 => la F rfl (x_move (F.t 0 rfl)) fun a F => la F rfl (x_rem (F.t 6 rfl) rfl (by decide) (rem256 _)) fun a F => la F rfl (x_conv Tryz.underlying5 ⟨_, Tryz.underlying59⟩ (F.t 7 rfl) (wu8 (by omega) (by omega))) fun a F => ?_)))
  refine lp rfl ?_
  refine w_lit 9 (enc := Value.int .u8) (h1 := fun _ => rfl) ([dig n j]) F H rfl Tryz.underlying27 ty5 (by simp only [bM, F.t 8 rfl]; rfl) rfl (by decide) (by decide) (by kernel_rfl) ?_
  clear F H; intro a w b9 F H
  refine la F rfl (x_move (F.t 3 rfl)) fun a F => ?_
  refine lp rfl ?_
  refine w_append 9 3 (xs := ([dig n j])) (ys := (bts n j)) F H rfl Tryz.underlying27 ty5 rfl rfl rfl rfl (Row.rd (ok' := fun k_ => (fun _ => False) k_ ∨ (.slice A3 (bts n j).length c3 : Value).ownBlock = some k_) (H.row 3 rfl) (fun _ hk_ _ => .inl hk_) (fun _ hk_ => .inr hk_)) (by rintro k_ (hk_ | hk_); exact .inr hk_; exact .inl hk_) (F.t 9 rfl) (F.t 10 rfl) (by simp only [List.length_cons, List.length_nil, bts_length] at *; omega) (by simp only [List.length_cons, List.length_nil, bts_length, maxLen] at *; omega) (fun _ => False) (fun w' v' h => row_flat h _) (fun k_ hk_ => hk_.elim) ?_
  clear F H; intro a w v11 F H
  have H := H.move 9 3 rfl rfl
  refine la F rfl (x_assign (F.t 11 rfl)) fun a F => wn (hK6 _ _ ?_)
  refine wp_region_lit ?_
  refine la F rfl (x_move (F.t 0 rfl)) fun a F => la F rfl (x_quo (F.t 12 rfl) rfl (by decide) (quo256 hn j)) fun a F => la F rfl (x_assign (F.t 13 rfl)) fun a F => ?_
  refine wpList_nil ?_
  exact ⟨_, by omega, ⟨j + 1, v11, rfl, by omega, .inr (by rw [Nat.add_sub_cancel]; exact Nat.pos_iff_ne_zero.1 hnz), ((F.bare.add F 3 rfl).add F 0 rfl), H.sub _ (sub_cons (sub_nil _) 3 rfl)⟩⟩
 have hk5_2 := hc5; try simp only [bL] at hc5
 obtain rfl : j = nb n := nb_unique hn (Nat.eq_zero_of_not_pos (fun h => hc5 (Int.natCast_pos.2 h))) hq0_1 hq0_0
 refine wp_exit ?_
 refine hK3 _ _ (sr fun _ hK7 => la F rfl (x_move (F.t 3 rfl)) fun a F => la F rfl (x_assign (F.t 14 rfl)) fun a F => wn (hK7 _ _ ?_))
 refine wp_ret ?_
 try simp only [Exit.then, Exit.inBlock]
 exact fin_ret F (res1 F rfl rfl) ⟨_, rfl, H.mods, Hp.out H 3 rfl⟩
theorem refEnc_calls (w0 : World) {ok : Nat → Prop} {A : Option Addr} {xs : List Fld} {c : Nat} (hr : Rd FE w0 ok A xs c) : Calls Tryz.prog 34 #[.slice A xs.length c] w0 fun e w' => ∃ v, e = .returned (.tuple #[v, .int .i64 (if (encR xs).isSome then 0 else 11)]) ∧ Mods (fun _ => False) w0 w' ∧ RowOut (.int .u8) 5 w0 w' v ((encR xs).getD []) := by
 refine cow Tryz.func34 rfl Tryz.ntmps34 (Nat.le_of_ble_eq_true rfl) fun a F => ?_
 have H := Hp.nil (fun _ => False) w0
 have H := H.arg 901 hr.all (fun _ h => ⟨h, fun h => h⟩)
 have hle901 := hr.le; unfold maxLen at hle901
 refine sr fun _ hK1 => la F rfl (x_assign rfl) fun a F => la F rfl (x_assign rfl) fun a F => wn (hK1 _ _ ?_)
 refine wp_seq_k fun khK2 hK2 => ?_
 refine sr fun _ hK3 => la F rfl (x_move (F.t 0 rfl)) fun a F => la F rfl (x_len_slice Tryz.underlying60 (F.t 7 rfl)) fun a F => la F rfl (x_gtr (F.t 8 rfl) rfl) fun a F => wn (hK3 _ _ ?_)
 refine wp_cond_split (F.t 9 rfl) (fun hc9 => ?_) (fun hc9 => ?_)
 ·have hk9_1 := hc9; try simp only [bL] at hc9
  have hnone := encR_many hc9
  refine sr fun khK4 hK4 => la F rfl (x_assign rfl) fun a F => la F rfl (x_assign rfl) fun a F => wn (hK4 _ _ ?_)
  refine wp_ret ?_
  try simp only [Exit.then, Exit.inBlock]
  exact fin_ret F (res2 F rfl rfl rfl) ⟨.slice none 0 0, by rw [hnone]; rfl, H.mods, by rw [hnone]; exact RowOut.nil _ _ _ _⟩
 have hk9_2 := hc9; try simp only [bL] at hc9
 refine wp_skip (hK2 _ _ (sr fun _ hK5 => la F rfl (x_assign rfl) fun a F => ?_))
 have H := H.row0 4 (.int .u8) 5
 refine wn (hK5 _ _ ?_)
 refine wp_seq_k fun khK6 hK6 => ?_
 refine sr fun _ hK7 => la F rfl (x_assign rfl) fun a F => wn (hK7 _ _ (wp_block ?_))
 refine wp_loop_ghost (fun n_ a w => ∃ k : Nat, ∃ v4 : Value, n_ = xs.length - k ∧ (k ≤ xs.length) ∧ ((xs.take k).all okF = true) ∧ ((encI (xs.take k)).length ≤ 2003 * k) ∧ Fr 63 a [(0, .slice A xs.length c), (4, v4), (5, .int .i64 (k : Int))] ∧ Hp (fun _ => False) w0 w [(901, .rd_ FE A xs c (fun k => k < w0.heap.size)), (4, .row (.int .u8) 5 v4 (encI (xs.take k)) (fun _ => False))]) (xs.length) ?_ ?_
 ·exact ⟨0, .slice none 0 0, rfl, by omega, rfl, by simp [encI], (((F.bare.add F 5 rfl).add F 4 rfl).add F 0 rfl), H.sub _ (sub_cons (sub_cons (sub_nil _) 4 rfl) 901 rfl)⟩
 rintro _ a w ⟨k, v4, rfl, hq0_0, hq0_1, hq0_2, F, H⟩
 refine wp_seq_k fun _ hK8 => ?_
 refine sr fun _ hK9 => la F rfl (x_move (F.t 5 rfl)) fun a F => la F rfl (x_move (F.t 0 rfl)) fun a F => la F rfl (x_len_slice Tryz.underlying60 (F.t 11 rfl)) fun a F => la F rfl (x_lss (F.t 10 rfl) (F.t 12 rfl)) fun a F => wn (hK9 _ _ ?_)
 refine wp_cond_split (F.t 13 rfl) (fun hc13 => ?_) (fun hc13 => ?_)
 ·have hk13_3 := hc13; try simp only [bL] at hc13
  obtain ⟨fA1, fc1, hfr1, hf1_0, hf1_1, hfw1⟩ := Rd.fld ((H.rd 901 rfl)) (gf_some (xs := xs) (i := (k : Int)) (by omega) (by omega))
  have H := H.subrd 901 rfl 1001 hfr1 (fun _ h => h)
  have H := H.subcels 901 rfl 1499 hfw1 (Rd.inok ((H.rd 901 rfl)) (by omega) _)
  have H := H.subcel 901 rfl 1500 hf1_0 (Rd.inok ((H.rd 901 rfl)) (by omega) _)
  have H := H.subcel 901 rfl 1501 hf1_1 (Rd.inok ((H.rd 901 rfl)) (by omega) _)
  refine wp_skip (hK8 _ _ ?_)
  refine wp_seq_k fun _ hK10 => ?_
  refine wp_block (sr fun _ hK11 => la F rfl (x_move (F.t 0 rfl)) fun a F => la F rfl (x_move (F.t 5 rfl)) fun a F => la F rfl (x_iaddr_A Tryz.underlying60 ty57 ((H.rd 901 rfl)) (F.t 16 rfl) (F.t 17 rfl) (by omega) (by omega) _) fun a F => la F rfl (x_faddrA ((H.rd 901 rfl)) (by omega) _ Tryz.underlying57 rfl ty27 (by decide) (F.t 18 rfl) rfl) fun a F => la F rfl (x_load1 ty27 (F.t 19 rfl) (H.holds 1501 _ rfl)) fun a F => la F rfl (x_len_slice Tryz.underlying27 (F.t 20 rfl)) fun a F => ?_)
  refine la F rfl (x_assign (F.t 21 rfl)) fun a F => wn (hK11 _ _ ?_)
  refine wp_seq_k fun _ hK12 => ?_
  refine sr fun _ hK13 => la F rfl (x_move (F.t 0 rfl)) fun a F => la F rfl (x_move (F.t 5 rfl)) fun a F => la F rfl (x_iaddr_A Tryz.underlying60 ty57 ((H.rd 901 rfl)) (F.t 22 rfl) (F.t 23 rfl) (by omega) (by omega) _) fun a F => la F rfl (x_faddrA ((H.rd 901 rfl)) (by omega) _ Tryz.underlying57 rfl ty3 (by decide) (F.t 24 rfl) rfl) fun a F => la F rfl (x_load1 ty3 (F.t 25 rfl) (H.holds 1500 _ rfl)) fun a F => la F rfl (x_lss (F.t 26 rfl) rfl) fun a F => la F rfl (x_move (F.t 27 rfl)) fun a F => ?_
  refine split_bool F 28 rfl (fun hb28 => ?_) (fun hb28 => ?_)
  ·have hc28 := hb28; try simp only [bL] at hc28
   have hnone := encR_bad (by omega) (.inl hc28)
   refine los F hb28 rfl fun a F => los F hb28 rfl fun a F => los F hb28 rfl fun a F => los F hb28 rfl fun a F => los F hb28 rfl fun a F => los F hb28 rfl fun a F => la F rfl (x_pickT (F.t 28 rfl) hb28 rfl) fun a F => la F rfl (x_move (F.t 35 rfl)) fun a F => ?_
   refine lo F rfl fun a F => lo F rfl fun a F => la F rfl (x_pickT (F.t 36 rfl) rfl rfl) fun a F => wn (hK13 _ _ ?_)
   refine wp_cond_true (F.t 39 rfl) ?_
   refine sr fun _ hK14 => la F rfl (x_assign rfl) fun a F => la F rfl (x_assign rfl) fun a F => wn (hK14 _ _ ?_)
   refine wp_ret ?_
   try simp only [Exit.then, Exit.inBlock]
   exact fin_ret F (res2 F rfl rfl rfl) ⟨.slice none 0 0, by rw [hnone]; rfl, H.mods, by rw [hnone]; exact RowOut.nil _ _ _ _⟩
  have hc28 := hb28; try simp only [bL] at hc28
  refine lgs F hb28 rfl (x_move (F.t 0 rfl)) fun a F => lgs F hb28 rfl (x_move (F.t 5 rfl)) fun a F => lgs F hb28 rfl (x_iaddr_A Tryz.underlying60 ty57 ((H.rd 901 rfl)) (F.t 29 rfl) (F.t 30 rfl) (by omega) (by omega) _) fun a F => lgs F hb28 rfl (x_faddrA ((H.rd 901 rfl)) (by omega) _ Tryz.underlying57 rfl ty3 (by decide) (F.t 31 rfl) rfl) fun a F => lgs F hb28 rfl (x_load1 ty3 (F.t 32 rfl) (H.holds 1500 _ rfl)) fun a F => lgs F hb28 rfl (x_gtr (F.t 33 rfl) rfl) fun a F => la F rfl (x_pickF (F.t 28 rfl) hb28 (F.t 34 rfl)) fun a F => la F rfl (x_move (F.t 35 rfl)) fun a F => ?_
  refine split_bool F 36 rfl (fun hb36 => ?_) (fun hb36 => ?_)
  ·have hc36 := hb36; try simp only [bL] at hc36
   have hnone := encR_bad (by omega) (.inr (.inl hc36))
   refine los F hb36 rfl fun a F => los F hb36 rfl fun a F => la F rfl (x_pickT (F.t 36 rfl) hb36 rfl) fun a F => wn (hK13 _ _ ?_)
   refine wp_cond_true (F.t 39 rfl) ?_
   refine sr fun _ hK15 => la F rfl (x_assign rfl) fun a F => la F rfl (x_assign rfl) fun a F => wn (hK15 _ _ ?_)
   refine wp_ret ?_
   try simp only [Exit.then, Exit.inBlock]
   exact fin_ret F (res2 F rfl rfl rfl) ⟨.slice none 0 0, by rw [hnone]; rfl, H.mods, by rw [hnone]; exact RowOut.nil _ _ _ _⟩
  have hc36 := hb36; try simp only [bL] at hc36
  refine lgs F hb36 rfl (x_move (F.t 6 rfl)) fun a F => lgs F hb36 rfl (x_gtr (F.t 37 rfl) rfl) fun a F => la F rfl (x_pickF (F.t 36 rfl) hb36 (F.t 38 rfl)) fun a F => wn (hK13 _ _ ?_)
  refine wp_cond_split (F.t 39 rfl) (fun hc39 => ?_) (fun hc39 => ?_)
  ·have hk39_4 := hc39; try simp only [bL] at hc39
   have hnone := encR_bad (by omega) (.inr (.inr hc39))
   refine sr fun _ hK16 => la F rfl (x_assign rfl) fun a F => la F rfl (x_assign rfl) fun a F => wn (hK16 _ _ ?_)
   refine wp_ret ?_
   try simp only [Exit.then, Exit.inBlock]
   exact fin_ret F (res2 F rfl rfl rfl) ⟨.slice none 0 0, by rw [hnone]; rfl, H.mods, by rw [hnone]; exact RowOut.nil _ _ _ _⟩
  have hk39_5 := hc39; try simp only [bL] at hc39
  refine wp_skip (hK12 _ _ (sr fun _ hK17 => la F rfl (x_move (F.t 4 rfl)) fun a F => la F rfl (x_move (F.t 0 rfl)) fun a F => la F rfl (x_move (F.t 5 rfl)) fun a F => la F rfl (x_iaddr_A Tryz.underlying60 ty57 ((H.rd 901 rfl)) (F.t 41 rfl) (F.t 42 rfl) (by omega) (by omega) _) fun a F => la F rfl (x_faddrA ((H.rd 901 rfl)) (by omega) _ Tryz.underlying57 rfl ty3 (by decide) (F.t 43 rfl) rfl) fun a F => ?_))
  refine la F rfl (x_load1 ty3 (F.t 44 rfl) (H.holds 1500 _ rfl)) fun a F => la F rfl (x_conv Tryz.underlying5 ⟨_, Tryz.underlying3⟩ (F.t 45 rfl) (wu8 (by omega) (by omega))) fun a F => la F rfl (x_move (F.t 6 rfl)) fun a F => la F rfl (x_quo (F.t 47 rfl) rfl (by decide) (quo256i (by omega))) fun a F => la F rfl (x_conv Tryz.underlying5 ⟨_, Tryz.underlying3⟩ (F.t 48 rfl) (wu8 (by omega) (by omega))) fun a F => la F rfl (x_move (F.t 6 rfl)) fun a F => la F rfl (x_rem (F.t 50 rfl) rfl (by decide) (rem256i _)) fun a F => la F rfl (x_conv Tryz.underlying5 ⟨_, Tryz.underlying3⟩ (F.t 51 rfl) (wu8 (by omega) (by omega))) fun a F => ?_
  refine lp rfl ?_
  refine w_lit 53 (enc := Value.int .u8) (h1 := fun _ => rfl) ([(gf xs (k : Int)).1, ((gf xs (k : Int)).2.length : Int) / 256, ((gf xs (k : Int)).2.length : Int) % 256]) F H rfl Tryz.underlying27 ty5 (by simp only [bM, F.t 46 rfl, F.t 49 rfl, F.t 52 rfl]; rfl) rfl (by decide) (by decide) (by kernel_rfl) ?_
  clear F H; intro a w b53 F H
  refine lp rfl ?_
  refine w_append 4 53 (xs := (encI (xs.take k))) (ys := ([(gf xs (k : Int)).1, ((gf xs (k : Int)).2.length : Int) / 256, ((gf xs (k : Int)).2.length : Int) % 256])) F H rfl Tryz.underlying27 ty5 rfl rfl rfl rfl (Row.rd (ok' := fun k_ => (fun _ => False) k_ ∨ (.slice (some ⟨b53, 0, none⟩) ([(gf xs (k : Int)).1, ((gf xs (k : Int)).2.length : Int) / 256, ((gf xs (k : Int)).2.length : Int) % 256]).length ([(gf xs (k : Int)).1, ((gf xs (k : Int)).2.length : Int) / 256, ((gf xs (k : Int)).2.length : Int) % 256]).length : Value).ownBlock = some k_) (H.row 53 rfl) (fun _ hk_ _ => .inl hk_) (fun _ hk_ => .inr hk_)) (by rintro k_ (hk_ | hk_); exact .inr hk_; exact .inl hk_) (F.t 40 rfl) (F.t 53 rfl) (by simp only [lN] at *; omega) (by simp only [lN, maxLen] at *; omega) (fun _ => False) (fun w' v' h => row_flat h _) (fun k_ hk_ => hk_.elim) ?_
  clear F H; intro a w v54 F H
  refine la F rfl (x_assign (F.t 54 rfl)) fun a F => wn (hK17 _ _ ?_)
  refine wp_region_lit ?_
  refine la F rfl (x_move (F.t 4 rfl)) fun a F => la F rfl (x_move (F.t 0 rfl)) fun a F => la F rfl (x_move (F.t 5 rfl)) fun a F => la F rfl (x_iaddr_A Tryz.underlying60 ty57 ((H.rd 901 rfl)) (F.t 56 rfl) (F.t 57 rfl) (by omega) (by omega) _) fun a F => la F rfl (x_faddrA ((H.rd 901 rfl)) (by omega) _ Tryz.underlying57 rfl ty27 (by decide) (F.t 58 rfl) rfl) fun a F => la F rfl (x_load1 ty27 (F.t 59 rfl) (H.holds 1501 _ rfl)) fun a F => ?_
  refine lp rfl ?_
  refine w_append 4 1001 (xs := ((encI (xs.take k)) ++ ([(gf xs (k : Int)).1, ((gf xs (k : Int)).2.length : Int) / 256, ((gf xs (k : Int)).2.length : Int) % 256]))) (ys := ((gf xs (k : Int)).2)) F H rfl Tryz.underlying27 ty5 rfl rfl rfl rfl ((H.rd 1001 rfl)) oI (F.t 55 rfl) (F.t 60 rfl) (by simp only [lN] at *; omega) (by simp only [lN, maxLen] at *; omega) (fun _ => False) (fun w' v' h => row_flat h _) (fun k_ hk_ => hk_.elim) ?_
  clear F H; intro a w v61 F H
  refine la F rfl (x_assign (F.t 61 rfl)) fun a F => wn (hK10 _ _ ?_)
  refine wp_region_lit ?_
  refine la F rfl (x_move (F.t 5 rfl)) fun a F => la F rfl (x_add (F.t 14 rfl) rfl (w64 (by omega) (by omega))) fun a F => la F rfl (x_assign (F.t 15 rfl)) fun a F => ?_
  refine wpList_nil ?_
  have hHs : Hp (fun _ => False) w0 w [(901, .rd_ FE A xs c (fun k => k < w0.heap.size)), (4, .row (.int .u8) 5 v61 ((encI (xs.take k) ++ [(gf xs (k : Int)).1, ((gf xs (k : Int)).2.length : Int) / 256, ((gf xs (k : Int)).2.length : Int) % 256]) ++ (gf xs (k : Int)).2) (fun _ => False))] := H.sub _ (sub_cons (sub_cons (sub_nil _) 4 rfl) 901 rfl)
  rw [encI_step hc13] at hHs
  exact ⟨_, by omega, ⟨k + 1, v61, rfl, by omega, all_step hc13 hq0_1 hc28 hc36 hc39, len_step hc13 hq0_2 hc39, (((F.bare.add F 5 rfl).add F 4 rfl).add F 0 rfl), hHs⟩⟩
 have hk13_6 := hc13; try simp only [bL] at hc13
 obtain rfl : k = xs.length := by omega
 rw [List.take_length] at hq0_1
 have hsome := encR_all hc9 hq0_1
 refine wp_exit ?_
 refine hK6 _ _ (sr fun _ hK18 => la F rfl (x_move (F.t 4 rfl)) fun a F => la F rfl (x_assign (F.t 62 rfl)) fun a F => la F rfl (x_assign rfl) fun a F => wn (hK18 _ _ ?_))
 refine wp_ret ?_
 try simp only [Exit.then, Exit.inBlock]
 rw [List.take_length] at H
 exact fin_ret F (res2 F rfl rfl rfl) ⟨_, by rw [hsome]; rfl, H.mods, by rw [hsome]; exact Hp.out H 4 rfl⟩
end Go.Proofs.YtiiklnghnifmjaaGreatDoor.Cod
