/- The walks of action. -/
import Derived.Test.YtiiklnghnifmjaaGreatDoorActSZc
import Derived.Test.YtiiklnghnifmjaaGreatDoorCodCZc
import Derived.Test.YtiiklnghnifmjaaGreatDoorLibZc
set_option linter.unusedVariables false
set_option maxRecDepth 100000
set_option maxHeartbeats 1000000
set_option linter.unusedSimpArgs false
namespace Go.Proofs.YtiiklnghnifmjaaGreatDoor.Act
open Go.RowKit Go.Proofs.YtiiklnghnifmjaaGreatDoor.Sx Go.Proofs.YtiiklnghnifmjaaGreatDoor.Cod Go.Proofs.YtiiklnghnifmjaaGreatDoor.Num
theorem ty2 : TyI Tryz.prog 2 (.int .i64 0) 1 8 false := ⟨by kernel_rfl, _, Tryz.underlying2, rfl⟩
theorem ty9 : TyI Tryz.prog 9 (.string (strOfNums [])) 1 16 false := ⟨by kernel_rfl, _, Tryz.underlying9, rfl⟩
theorem ty89 : TyI Tryz.prog 89 (.int .i64 0) 1 8 false := ⟨by kernel_rfl, _, Tryz.underlying89, rfl⟩
theorem ty91 : TyI Tryz.prog 91 (.agg #[.int .i64 0, .string (strOfNums []), .string (strOfNums []), .int .i64 0]) 4 48 true := ⟨by kernel_rfl, _, Tryz.underlying91, rfl⟩
theorem name_calls (w0 : World) (xs : List Int) : Calls Tryz.prog 112 #[.string (strOfNums xs)] w0 fun e w' => e = .returned (.bool (nameI xs)) ∧ Mods (fun _ => False) w0 w' := by
 refine cow Tryz.func112 rfl Tryz.ntmps112 (Nat.le_of_ble_eq_true rfl) fun a F => ?_
 have H := Hp.nil (fun _ => False) w0
 refine sr fun _ hK1 => la F rfl (x_assign rfl) fun a F => wn (hK1 _ _ (sr fun _ hK2 => la F rfl (x_move (F.t 0 rfl)) fun a F => la F rfl (x_nen0 (xs := xs) (F.t 3 rfl) (show _ = Value.string (strOfNums ([] : List Int)) by kernel_rfl)) fun a F => la F rfl (x_move (F.t 4 rfl)) fun a F => ?_))
 refine split_bool F 5 rfl (fun hb5 => ?_) (fun hb5 => ?_)
 ·have hc5 := hb5; try simp only [bL] at hc5
  refine lgs F hb5 rfl (x_move (F.t 0 rfl)) fun a F => lgs F hb5 rfl (x_len_sn (xs := xs) Tryz.underlying9 (F.t 6 rfl)) fun a F => lgs F hb5 rfl (x_leq (F.t 7 rfl) rfl) fun a F => la F rfl (x_pickT (F.t 5 rfl) hb5 (F.t 8 rfl)) fun a F => la F rfl (x_assign (F.t 9 rfl)) fun a F => wn (hK2 _ _ ?_)
  refine wp_ret ?_
  try simp only [Exit.then, Exit.inBlock]
  refine fin_ret F (res1 (v := .bool (decide ((xs.length : Int) ≤ 16))) F rfl rfl) ⟨?_, H.mods⟩
  congr 2; unfold nameI; rw [Bool.eq_iff_iff]; simp; omega
 have hc5 := hb5; try simp only [bL] at hc5
 refine los F hb5 rfl fun a F => los F hb5 rfl fun a F => los F hb5 rfl fun a F => la F rfl (x_pickF (F.t 5 rfl) hb5 rfl) fun a F => la F rfl (x_assign (F.t 9 rfl)) fun a F => wn (hK2 _ _ ?_)
 refine wp_ret ?_
 try simp only [Exit.then, Exit.inBlock]
 refine fin_ret F (res1 (v := .bool false) F rfl rfl) ⟨?_, H.mods⟩
 congr 2; unfold nameI; rw [Bool.eq_iff_iff]; simp; omega
theorem rname_calls (w0 : World) (xs : List Int) : Calls Tryz.prog 85 #[.string (strOfNums xs)] w0 fun e w' => e = .returned (.bool (nameI xs)) ∧ Mods (fun _ => False) w0 w' := by
 refine cow Tryz.func85 rfl Tryz.ntmps85 (Nat.le_of_ble_eq_true rfl) fun a F => ?_
 have H := Hp.nil (fun _ => False) w0
 refine sr fun _ hK1 => la F rfl (x_assign rfl) fun a F => wn (hK1 _ _ (sr fun _ hK2 => la F rfl (x_move (F.t 0 rfl)) fun a F => la F rfl (x_len_sn (xs := xs) Tryz.underlying9 (F.t 3 rfl)) fun a F => la F rfl (x_geq (F.t 4 rfl) rfl) fun a F => la F rfl (x_move (F.t 5 rfl)) fun a F => ?_))
 refine split_bool F 6 rfl (fun hb6 => ?_) (fun hb6 => ?_)
 ·have hc6 := hb6; try simp only [bL] at hc6
  refine lgs F hb6 rfl (x_move (F.t 0 rfl)) fun a F => lgs F hb6 rfl (x_len_sn (xs := xs) Tryz.underlying9 (F.t 7 rfl)) fun a F => lgs F hb6 rfl (x_leq (F.t 8 rfl) rfl) fun a F => la F rfl (x_pickT (F.t 6 rfl) hb6 (F.t 9 rfl)) fun a F => la F rfl (x_assign (F.t 10 rfl)) fun a F => wn (hK2 _ _ ?_)
  refine wp_ret ?_
  try simp only [Exit.then, Exit.inBlock]
  refine fin_ret F (res1 (v := .bool (decide ((xs.length : Int) ≤ 16))) F rfl rfl) ⟨?_, H.mods⟩
  congr 2; unfold nameI; rw [Bool.eq_iff_iff]; simp; omega
 have hc6 := hb6; try simp only [bL] at hc6
 refine los F hb6 rfl fun a F => los F hb6 rfl fun a F => los F hb6 rfl fun a F => la F rfl (x_pickF (F.t 6 rfl) hb6 rfl) fun a F => la F rfl (x_assign (F.t 10 rfl)) fun a F => wn (hK2 _ _ ?_)
 refine wp_ret ?_
 try simp only [Exit.then, Exit.inBlock]
 refine fin_ret F (res1 (v := .bool false) F rfl rfl) ⟨?_, H.mods⟩
 congr 2; unfold nameI; rw [Bool.eq_iff_iff]; simp; omega
theorem right_calls (w0 : World) (s : StepD) : Calls Tryz.prog 98 #[.agg #[.int .i64 s.1, .string (strOfNums s.2.1), .string (strOfNums s.2.2.1), .int .i64 s.2.2.2]] w0 fun e w' => e = .returned (.bool (rightS s)) ∧ Mods (fun _ => False) w0 w' := by
 refine cow Tryz.func98 rfl Tryz.ntmps98 (Nat.le_of_ble_eq_true rfl) fun a F => ?_
 have H := Hp.nil (fun _ => False) w0
 refine sr fun _ hK1 => ?_
 refine lp rfl ?_
 refine w_box 1 F H rfl (F.t 0 rfl) ?_
 clear F H; intro a w b1 F H
 refine la F rfl (x_assign rfl) fun a F => wn (hK1 _ _ ?_)
 refine wp_seq_k fun _ hK2 => ?_
 refine sr fun _ hK3 => la F rfl (x_faddr Tryz.underlying91 rfl ty89 (by decide) (F.t 1 rfl) rfl) fun a F => la F rfl (x_load1 ty89 (F.t 3 rfl) (blk_cell (H.at 1 rfl) 0 rfl)) fun a F => wn (hK3 _ _ (wp_block (sr fun _ hK4 => la F rfl (x_eql (F.t 4 rfl) rfl) fun a F => la F rfl (x_assign (F.t 6 rfl)) fun a F => ?_)))
 refine wn (hK4 _ _ ?_)
 refine wp_cond_split (F.t 5 rfl) (fun hc5 => ?_) (fun hc5 => ?_)
 ·have hk5_1 := hc5; try simp only [bL] at hc5
  refine sr fun _ hK5 => la F rfl (x_faddr Tryz.underlying91 rfl ty9 (by decide) (F.t 1 rfl) rfl) fun a F => la F rfl (x_load1 ty9 (F.t 7 rfl) (blk_cell (H.at 1 rfl) 1 rfl)) fun a F => ?_
  refine lp rfl ?_
  refine w_call F (x_enter Tryz.func112 (by kernel_rfl) rfl (by simp only [bM, F.t 8 rfl] <;> rfl)) (name_calls _ s.2.1) rfl rfl ?_
  rintro _ w ⟨rfl, hm_⟩; refine ⟨_, rfl, ?_⟩; clear F; intro a F; have H := H.same hm_
  refine la F rfl (x_move (F.t 9 rfl)) fun a F => ?_
  refine split_bool F 10 rfl (fun hb10 => ?_) (fun hb10 => ?_)
  ·have hc10 := hb10; try simp only [bL] at hc10
   refine lgs F hb10 rfl (x_faddr Tryz.underlying91 rfl ty9 (by decide) (F.t 1 rfl) rfl) fun a F => lgs F hb10 rfl (x_load1 ty9 (F.t 11 rfl) (blk_cell (H.at 1 rfl) 2 rfl)) fun a F => lgs F hb10 rfl (x_len_sn (xs := s.2.2.1) Tryz.underlying9 (F.t 12 rfl)) fun a F => lgs F hb10 rfl (x_leq (F.t 13 rfl) rfl) fun a F => la F rfl (x_pickT (F.t 10 rfl) hb10 (F.t 14 rfl)) fun a F => la F rfl (x_move (F.t 15 rfl)) fun a F => ?_
   refine split_bool F 16 rfl (fun hb16 => ?_) (fun hb16 => ?_)
   ·have hc16 := hb16; try simp only [bL] at hc16
    refine lgs F hb16 rfl (x_faddr Tryz.underlying91 rfl ty2 (by decide) (F.t 1 rfl) rfl) fun a F => lgs F hb16 rfl (x_load1 ty2 (F.t 17 rfl) (blk_cell (H.at 1 rfl) 3 rfl)) fun a F => lgs F hb16 rfl (x_eql (F.t 18 rfl) rfl) fun a F => la F rfl (x_pickT (F.t 16 rfl) hb16 (F.t 19 rfl)) fun a F => la F rfl (x_assign (F.t 20 rfl)) fun a F => wn (hK5 _ _ ?_)
    refine wp_ret ?_
    try simp only [Exit.then, Exit.inBlock]
    refine fin_ret F (res1 (v := .bool (decide (s.2.2.2 = 0))) F rfl rfl) ⟨?_, H.mods⟩
    congr 2; unfold rightS; first | (simp [hc5, hc10, hc16]; done) | (simp [hc5, hc10, hc16]; intros; omega)
   have hc16 := hb16; try simp only [bL] at hc16
   refine los F hb16 rfl fun a F => los F hb16 rfl fun a F => los F hb16 rfl fun a F => la F rfl (x_pickF (F.t 16 rfl) hb16 rfl) fun a F => la F rfl (x_assign (F.t 20 rfl)) fun a F => wn (hK5 _ _ ?_)
   refine wp_ret ?_
   try simp only [Exit.then, Exit.inBlock]
   refine fin_ret F (res1 (v := .bool false) F rfl rfl) ⟨?_, H.mods⟩
   congr 2; unfold rightS; first | (simp [hc5, hc10, hc16]; done) | (simp [hc5, hc10, hc16]; intros; omega)
  have hc10 := hb10; try simp only [bL] at hc10
  refine los F hb10 rfl fun a F => los F hb10 rfl fun a F => los F hb10 rfl fun a F => los F hb10 rfl fun a F => la F rfl (x_pickF (F.t 10 rfl) hb10 rfl) fun a F => la F rfl (x_move (F.t 15 rfl)) fun a F => lo F rfl fun a F => lo F rfl fun a F => ?_
  refine lo F rfl fun a F => la F rfl (x_pickF (F.t 16 rfl) rfl rfl) fun a F => la F rfl (x_assign (F.t 20 rfl)) fun a F => wn (hK5 _ _ ?_)
  refine wp_ret ?_
  try simp only [Exit.then, Exit.inBlock]
  refine fin_ret F (res1 (v := .bool false) F rfl rfl) ⟨?_, H.mods⟩
  congr 2; unfold rightS; first | (simp [hc5, hc10]; done) | (simp [hc5, hc10]; intros; omega)
 have hk5_2 := hc5; try simp only [bL] at hc5
 refine wp_seq_k fun _ hK6 => ?_
 refine sr fun _ hK7 => la F rfl (x_eql (F.t 4 rfl) rfl) fun a F => la F rfl (x_assign (F.t 22 rfl)) fun a F => wn (hK7 _ _ ?_)
 refine wp_cond_split (F.t 21 rfl) (fun hc21 => ?_) (fun hc21 => ?_)
 ·have hk21_3 := hc21; try simp only [bL] at hc21
  refine wp_skip (hK6 _ _ ?_)
  refine wp_cond_true ((F.t 21 rfl).trans (by rw [hk21_3])) ?_
  refine sr fun _ hK8 => la F rfl (x_faddr Tryz.underlying91 rfl ty9 (by decide) (F.t 1 rfl) rfl) fun a F => la F rfl (x_load1 ty9 (F.t 24 rfl) (blk_cell (H.at 1 rfl) 1 rfl)) fun a F => ?_
  refine lp rfl ?_
  refine w_call F (x_enter Tryz.func112 (by kernel_rfl) rfl (by simp only [bM, F.t 25 rfl] <;> rfl)) (name_calls _ s.2.1) rfl rfl ?_
  rintro _ w ⟨rfl, hm_⟩; refine ⟨_, rfl, ?_⟩; clear F; intro a F; have H := H.same hm_
  refine la F rfl (x_move (F.t 26 rfl)) fun a F => ?_
  refine split_bool F 27 rfl (fun hb27 => ?_) (fun hb27 => ?_)
  ·have hc27 := hb27; try simp only [bL] at hc27
   refine lgs F hb27 rfl (x_faddr Tryz.underlying91 rfl ty9 (by decide) (F.t 1 rfl) rfl) fun a F => lgs F hb27 rfl (x_load1 ty9 (F.t 28 rfl) (blk_cell (H.at 1 rfl) 2 rfl)) fun a F => lgs F hb27 rfl (x_eqn0 (xs := s.2.2.1) (F.t 29 rfl) (show _ = Value.string (strOfNums ([] : List Int)) by kernel_rfl)) fun a F => la F rfl (x_pickT (F.t 27 rfl) hb27 (F.t 30 rfl)) fun a F => la F rfl (x_move (F.t 31 rfl)) fun a F => ?_
   refine split_bool F 32 rfl (fun hb32 => ?_) (fun hb32 => ?_)
   ·have hc32 := hb32; try simp only [bL] at hc32
    refine lgs F hb32 rfl (x_faddr Tryz.underlying91 rfl ty2 (by decide) (F.t 1 rfl) rfl) fun a F => lgs F hb32 rfl (x_load1 ty2 (F.t 33 rfl) (blk_cell (H.at 1 rfl) 3 rfl)) fun a F => lgs F hb32 rfl (x_eql (F.t 34 rfl) rfl) fun a F => la F rfl (x_pickT (F.t 32 rfl) hb32 (F.t 35 rfl)) fun a F => la F rfl (x_assign (F.t 36 rfl)) fun a F => wn (hK8 _ _ ?_)
    refine wp_ret ?_
    try simp only [Exit.then, Exit.inBlock]
    refine fin_ret F (res1 (v := .bool (decide (s.2.2.2 = 0))) F rfl rfl) ⟨?_, H.mods⟩
    congr 2; unfold rightS; first | (simp [hc5, hc21, hc27, hc32]; done) | (simp [hc5, hc21, hc27, hc32]; intros; omega)
   have hc32 := hb32; try simp only [bL] at hc32
   refine los F hb32 rfl fun a F => los F hb32 rfl fun a F => los F hb32 rfl fun a F => la F rfl (x_pickF (F.t 32 rfl) hb32 rfl) fun a F => la F rfl (x_assign (F.t 36 rfl)) fun a F => wn (hK8 _ _ ?_)
   refine wp_ret ?_
   try simp only [Exit.then, Exit.inBlock]
   refine fin_ret F (res1 (v := .bool false) F rfl rfl) ⟨?_, H.mods⟩
   congr 2; unfold rightS; first | (simp [hc5, hc21, hc27, hc32]; done) | (simp [hc5, hc21, hc27, hc32]; intros; omega)
  have hc27 := hb27; try simp only [bL] at hc27
  refine los F hb27 rfl fun a F => los F hb27 rfl fun a F => los F hb27 rfl fun a F => la F rfl (x_pickF (F.t 27 rfl) hb27 rfl) fun a F => la F rfl (x_move (F.t 31 rfl)) fun a F => lo F rfl fun a F => lo F rfl fun a F => lo F rfl fun a F => ?_
  refine la F rfl (x_pickF (F.t 32 rfl) rfl rfl) fun a F => la F rfl (x_assign (F.t 36 rfl)) fun a F => wn (hK8 _ _ ?_)
  refine wp_ret ?_
  try simp only [Exit.then, Exit.inBlock]
  refine fin_ret F (res1 (v := .bool false) F rfl rfl) ⟨?_, H.mods⟩
  congr 2; unfold rightS; first | (simp [hc5, hc21, hc27]; done) | (simp [hc5, hc21, hc27]; intros; omega)
 have hk21_4 := hc21; try simp only [bL] at hc21
 refine wp_region_lit ?_
 refine la F rfl (x_eql (F.t 4 rfl) rfl) fun a F => la F rfl (x_assign (F.t 23 rfl)) fun a F => wn (hK6 _ _ ?_)
 refine wp_cond_split (F.t 21 rfl) (fun hc21 => ?_) (fun hc21 => ?_)
 ·have hk21_5 := hc21; try simp only [bL] at hc21
  refine sr fun _ hK9 => la F rfl (x_faddr Tryz.underlying91 rfl ty9 (by decide) (F.t 1 rfl) rfl) fun a F => la F rfl (x_load1 ty9 (F.t 24 rfl) (blk_cell (H.at 1 rfl) 1 rfl)) fun a F => ?_
  refine lp rfl ?_
  refine w_call F (x_enter Tryz.func112 (by kernel_rfl) rfl (by simp only [bM, F.t 25 rfl] <;> rfl)) (name_calls _ s.2.1) rfl rfl ?_
  rintro _ w ⟨rfl, hm_⟩; refine ⟨_, rfl, ?_⟩; clear F; intro a F; have H := H.same hm_
  refine la F rfl (x_move (F.t 26 rfl)) fun a F => ?_
  refine split_bool F 27 rfl (fun hb27 => ?_) (fun hb27 => ?_)
  ·have hc27 := hb27; try simp only [bL] at hc27
   refine lgs F hb27 rfl (x_faddr Tryz.underlying91 rfl ty9 (by decide) (F.t 1 rfl) rfl) fun a F => lgs F hb27 rfl (x_load1 ty9 (F.t 28 rfl) (blk_cell (H.at 1 rfl) 2 rfl)) fun a F => lgs F hb27 rfl (x_eqn0 (xs := s.2.2.1) (F.t 29 rfl) (show _ = Value.string (strOfNums ([] : List Int)) by kernel_rfl)) fun a F => la F rfl (x_pickT (F.t 27 rfl) hb27 (F.t 30 rfl)) fun a F => la F rfl (x_move (F.t 31 rfl)) fun a F => ?_
   refine split_bool F 32 rfl (fun hb32 => ?_) (fun hb32 => ?_)
   ·have hc32 := hb32; try simp only [bL] at hc32
    refine lgs F hb32 rfl (x_faddr Tryz.underlying91 rfl ty2 (by decide) (F.t 1 rfl) rfl) fun a F => lgs F hb32 rfl (x_load1 ty2 (F.t 33 rfl) (blk_cell (H.at 1 rfl) 3 rfl)) fun a F => lgs F hb32 rfl (x_eql (F.t 34 rfl) rfl) fun a F => la F rfl (x_pickT (F.t 32 rfl) hb32 (F.t 35 rfl)) fun a F => la F rfl (x_assign (F.t 36 rfl)) fun a F => wn (hK9 _ _ ?_)
    refine wp_ret ?_
    try simp only [Exit.then, Exit.inBlock]
    refine fin_ret F (res1 (v := .bool (decide (s.2.2.2 = 0))) F rfl rfl) ⟨?_, H.mods⟩
    congr 2; unfold rightS; first | (simp [hc5, hc21, hc21, hc27, hc32]; done) | (simp [hc5, hc21, hc21, hc27, hc32]; intros; omega)
   have hc32 := hb32; try simp only [bL] at hc32
   refine los F hb32 rfl fun a F => los F hb32 rfl fun a F => los F hb32 rfl fun a F => la F rfl (x_pickF (F.t 32 rfl) hb32 rfl) fun a F => la F rfl (x_assign (F.t 36 rfl)) fun a F => wn (hK9 _ _ ?_)
   refine wp_ret ?_
   try simp only [Exit.then, Exit.inBlock]
   refine fin_ret F (res1 (v := .bool false) F rfl rfl) ⟨?_, H.mods⟩
   congr 2; unfold rightS; first | (simp [hc5, hc21, hc21, hc27, hc32]; done) | (simp [hc5, hc21, hc21, hc27, hc32]; intros; omega)
  have hc27 := hb27; try simp only [bL] at hc27
  refine los F hb27 rfl fun a F => los F hb27 rfl fun a F => los F hb27 rfl fun a F => la F rfl (x_pickF (F.t 27 rfl) hb27 rfl) fun a F => la F rfl (x_move (F.t 31 rfl)) fun a F => lo F rfl fun a F => lo F rfl fun a F => lo F rfl fun a F => ?_
  refine la F rfl (x_pickF (F.t 32 rfl) rfl rfl) fun a F => la F rfl (x_assign (F.t 36 rfl)) fun a F => wn (hK9 _ _ ?_)
  refine wp_ret ?_
  try simp only [Exit.then, Exit.inBlock]
  refine fin_ret F (res1 (v := .bool false) F rfl rfl) ⟨?_, H.mods⟩
  congr 2; unfold rightS; first | (simp [hc5, hc21, hc21, hc27]; done) | (simp [hc5, hc21, hc21, hc27]; intros; omega)
 have hk21_6 := hc21; try simp only [bL] at hc21
 refine sr fun _ hK10 => la F rfl (x_eql (F.t 4 rfl) rfl) fun a F => la F rfl (x_assign (F.t 38 rfl)) fun a F => wn (hK10 _ _ ?_)
 refine wp_cond_split (F.t 37 rfl) (fun hc37 => ?_) (fun hc37 => ?_)
 ·have hk37_7 := hc37; try simp only [bL] at hc37
  refine sr fun _ hK11 => la F rfl (x_faddr Tryz.underlying91 rfl ty9 (by decide) (F.t 1 rfl) rfl) fun a F => la F rfl (x_load1 ty9 (F.t 39 rfl) (blk_cell (H.at 1 rfl) 1 rfl)) fun a F => ?_
  refine lp rfl ?_
  refine w_call F (x_enter Tryz.func112 (by kernel_rfl) rfl (by simp only [bM, F.t 40 rfl] <;> rfl)) (name_calls _ s.2.1) rfl rfl ?_
  rintro _ w ⟨rfl, hm_⟩; refine ⟨_, rfl, ?_⟩; clear F; intro a F; have H := H.same hm_
  refine la F rfl (x_move (F.t 41 rfl)) fun a F => ?_
  refine split_bool F 42 rfl (fun hb42 => ?_) (fun hb42 => ?_)
  ·have hc42 := hb42; try simp only [bL] at hc42
   refine lgs F hb42 rfl (x_faddr Tryz.underlying91 rfl ty9 (by decide) (F.t 1 rfl) rfl) fun a F => lgs F hb42 rfl (x_load1 ty9 (F.t 43 rfl) (blk_cell (H.at 1 rfl) 2 rfl)) fun a F => lgs F hb42 rfl (x_eqn0 (xs := s.2.2.1) (F.t 44 rfl) (show _ = Value.string (strOfNums ([] : List Int)) by kernel_rfl)) fun a F => la F rfl (x_pickT (F.t 42 rfl) hb42 (F.t 45 rfl)) fun a F => la F rfl (x_assign (F.t 46 rfl)) fun a F => wn (hK11 _ _ ?_)
   refine wp_ret ?_
   try simp only [Exit.then, Exit.inBlock]
   refine fin_ret F (res1 (v := .bool (decide (s.2.2.1.length = 0))) F rfl rfl) ⟨?_, H.mods⟩
   congr 2; unfold rightS; first | (simp [hc5, hc21, hc21, hc37, hc42]; done) | (simp [hc5, hc21, hc21, hc37, hc42]; intros; omega)
  have hc42 := hb42; try simp only [bL] at hc42
  refine los F hb42 rfl fun a F => los F hb42 rfl fun a F => los F hb42 rfl fun a F => la F rfl (x_pickF (F.t 42 rfl) hb42 rfl) fun a F => la F rfl (x_assign (F.t 46 rfl)) fun a F => wn (hK11 _ _ ?_)
  refine wp_ret ?_
  try simp only [Exit.then, Exit.inBlock]
  refine fin_ret F (res1 (v := .bool false) F rfl rfl) ⟨?_, H.mods⟩
  congr 2; unfold rightS; first | (simp [hc5, hc21, hc21, hc37, hc42]; done) | (simp [hc5, hc21, hc21, hc37, hc42]; intros; omega)
 have hk37_8 := hc37; try simp only [bL] at hc37
 refine wp_skip (hK2 _ _ (sr fun _ hK12 => la F rfl (x_assign rfl) fun a F => wn (hK12 _ _ ?_)))
 refine wp_ret ?_
 try simp only [Exit.then, Exit.inBlock]
 refine fin_ret F (res1 (v := .bool false) F rfl rfl) ⟨?_, H.mods⟩
 congr 2; unfold rightS; first | (simp [hc5, hc21, hc21, hc37]; done) | (simp [hc5, hc21, hc21, hc37]; intros; omega)
theorem rright_calls (w0 : World) (s : StepD) : Calls Tryz.prog 101 #[.agg #[.int .i64 s.1, .string (strOfNums s.2.1), .string (strOfNums s.2.2.1), .int .i64 s.2.2.2]] w0 fun e w' => e = .returned (.bool (rightS s)) ∧ Mods (fun _ => False) w0 w' := by
 refine cow Tryz.func101 rfl Tryz.ntmps101 (Nat.le_of_ble_eq_true rfl) fun a F => ?_
 have H := Hp.nil (fun _ => False) w0
 refine sr fun _ hK1 => ?_
 refine lp rfl ?_
 refine w_box 1 F H rfl (F.t 0 rfl) ?_
 clear F H; intro a w b1 F H
 refine la F rfl (x_assign rfl) fun a F => wn (hK1 _ _ (sr fun _ hK2 => la F rfl (x_faddr Tryz.underlying91 rfl ty9 (by decide) (F.t 1 rfl) rfl) fun a F => la F rfl (x_load1 ty9 (F.t 4 rfl) (blk_cell (H.at 1 rfl) 1 rfl)) fun a F => ?_))
 refine lp rfl ?_
 refine w_call F (x_enter Tryz.func85 (by kernel_rfl) rfl (by simp only [bM, F.t 5 rfl] <;> rfl)) (rname_calls _ s.2.1) rfl rfl ?_
 rintro _ w ⟨rfl, hm_⟩; refine ⟨_, rfl, ?_⟩; clear F; intro a F; have H := H.same hm_
 refine la F rfl (x_assign (F.t 6 rfl)) fun a F => wn (hK2 _ _ ?_)
 refine wp_seq_k fun _ hK3 => ?_
 refine sr fun _ hK4 => la F rfl (x_faddr Tryz.underlying91 rfl ty89 (by decide) (F.t 1 rfl) rfl) fun a F => la F rfl (x_load1 ty89 (F.t 7 rfl) (blk_cell (H.at 1 rfl) 0 rfl)) fun a F => wn (hK4 _ _ (wp_block (sr fun _ hK5 => la F rfl (x_eql (F.t 8 rfl) rfl) fun a F => la F rfl (x_assign (F.t 10 rfl)) fun a F => ?_)))
 refine wn (hK5 _ _ ?_)
 refine wp_cond_split (F.t 9 rfl) (fun hc9 => ?_) (fun hc9 => ?_)
 ·have hk9_1 := hc9; try simp only [bL] at hc9
  refine sr fun _ hK6 => la F rfl (x_move (F.t 3 rfl)) fun a F => la F rfl (x_move (F.t 11 rfl)) fun a F => ?_
  refine split_bool F 12 rfl (fun hb12 => ?_) (fun hb12 => ?_)
  ·have hc12 := hb12; try simp only [bL] at hc12
   refine lgs F hb12 rfl (x_faddr Tryz.underlying91 rfl ty9 (by decide) (F.t 1 rfl) rfl) fun a F => lgs F hb12 rfl (x_load1 ty9 (F.t 13 rfl) (blk_cell (H.at 1 rfl) 2 rfl)) fun a F => lgs F hb12 rfl (x_len_sn (xs := s.2.2.1) Tryz.underlying9 (F.t 14 rfl)) fun a F => lgs F hb12 rfl (x_leq (F.t 15 rfl) rfl) fun a F => la F rfl (x_pickT (F.t 12 rfl) hb12 (F.t 16 rfl)) fun a F => la F rfl (x_move (F.t 17 rfl)) fun a F => ?_
   refine split_bool F 18 rfl (fun hb18 => ?_) (fun hb18 => ?_)
   ·have hc18 := hb18; try simp only [bL] at hc18
    refine lgs F hb18 rfl (x_faddr Tryz.underlying91 rfl ty2 (by decide) (F.t 1 rfl) rfl) fun a F => lgs F hb18 rfl (x_load1 ty2 (F.t 19 rfl) (blk_cell (H.at 1 rfl) 3 rfl)) fun a F => lgs F hb18 rfl (x_eql (F.t 20 rfl) rfl) fun a F => la F rfl (x_pickT (F.t 18 rfl) hb18 (F.t 21 rfl)) fun a F => la F rfl (x_assign (F.t 22 rfl)) fun a F => wn (hK6 _ _ ?_)
    refine wp_ret ?_
    try simp only [Exit.then, Exit.inBlock]
    refine fin_ret F (res1 (v := .bool (decide (s.2.2.2 = 0))) F rfl rfl) ⟨?_, H.mods⟩
    congr 2; unfold rightS; first | (simp [hc9, hc12, hc18]; done) | (simp [hc9, hc12, hc18]; intros; omega)
   have hc18 := hb18; try simp only [bL] at hc18
   refine los F hb18 rfl fun a F => los F hb18 rfl fun a F => los F hb18 rfl fun a F => la F rfl (x_pickF (F.t 18 rfl) hb18 rfl) fun a F => la F rfl (x_assign (F.t 22 rfl)) fun a F => wn (hK6 _ _ ?_)
   refine wp_ret ?_
   try simp only [Exit.then, Exit.inBlock]
   refine fin_ret F (res1 (v := .bool false) F rfl rfl) ⟨?_, H.mods⟩
   congr 2; unfold rightS; first | (simp [hc9, hc12, hc18]; done) | (simp [hc9, hc12, hc18]; intros; omega)
  have hc12 := hb12; try simp only [bL] at hc12
  refine los F hb12 rfl fun a F => los F hb12 rfl fun a F => los F hb12 rfl fun a F => los F hb12 rfl fun a F => la F rfl (x_pickF (F.t 12 rfl) hb12 rfl) fun a F => la F rfl (x_move (F.t 17 rfl)) fun a F => lo F rfl fun a F => lo F rfl fun a F => ?_
  refine lo F rfl fun a F => la F rfl (x_pickF (F.t 18 rfl) rfl rfl) fun a F => la F rfl (x_assign (F.t 22 rfl)) fun a F => wn (hK6 _ _ ?_)
  refine wp_ret ?_
  try simp only [Exit.then, Exit.inBlock]
  refine fin_ret F (res1 (v := .bool false) F rfl rfl) ⟨?_, H.mods⟩
  congr 2; unfold rightS; first | (simp [hc9, hc12]; done) | (simp [hc9, hc12]; intros; omega)
 have hk9_2 := hc9; try simp only [bL] at hc9
 refine wp_seq_k fun _ hK7 => ?_
 refine sr fun _ hK8 => la F rfl (x_eql (F.t 8 rfl) rfl) fun a F => la F rfl (x_assign (F.t 24 rfl)) fun a F => wn (hK8 _ _ ?_)
 refine wp_cond_split (F.t 23 rfl) (fun hc23 => ?_) (fun hc23 => ?_)
 ·have hk23_3 := hc23; try simp only [bL] at hc23
  refine wp_skip (hK7 _ _ ?_)
  refine wp_cond_true ((F.t 23 rfl).trans (by rw [hk23_3])) ?_
  refine sr fun _ hK9 => la F rfl (x_move (F.t 3 rfl)) fun a F => la F rfl (x_move (F.t 26 rfl)) fun a F => ?_
  refine split_bool F 27 rfl (fun hb27 => ?_) (fun hb27 => ?_)
  ·have hc27 := hb27; try simp only [bL] at hc27
   refine lgs F hb27 rfl (x_faddr Tryz.underlying91 rfl ty9 (by decide) (F.t 1 rfl) rfl) fun a F => lgs F hb27 rfl (x_load1 ty9 (F.t 28 rfl) (blk_cell (H.at 1 rfl) 2 rfl)) fun a F => lgs F hb27 rfl (x_eqn0 (xs := s.2.2.1) (F.t 29 rfl) (show _ = Value.string (strOfNums ([] : List Int)) by kernel_rfl)) fun a F => la F rfl (x_pickT (F.t 27 rfl) hb27 (F.t 30 rfl)) fun a F => la F rfl (x_move (F.t 31 rfl)) fun a F => ?_
   refine split_bool F 32 rfl (fun hb32 => ?_) (fun hb32 => ?_)
   ·have hc32 := hb32; try simp only [bL] at hc32
    refine lgs F hb32 rfl (x_faddr Tryz.underlying91 rfl ty2 (by decide) (F.t 1 rfl) rfl) fun a F => lgs F hb32 rfl (x_load1 ty2 (F.t 33 rfl) (blk_cell (H.at 1 rfl) 3 rfl)) fun a F => lgs F hb32 rfl (x_eql (F.t 34 rfl) rfl) fun a F => la F rfl (x_pickT (F.t 32 rfl) hb32 (F.t 35 rfl)) fun a F => la F rfl (x_assign (F.t 36 rfl)) fun a F => wn (hK9 _ _ ?_)
    refine wp_ret ?_
    try simp only [Exit.then, Exit.inBlock]
    refine fin_ret F (res1 (v := .bool (decide (s.2.2.2 = 0))) F rfl rfl) ⟨?_, H.mods⟩
    congr 2; unfold rightS; first | (simp [hc9, hc23, hc27, hc32]; done) | (simp [hc9, hc23, hc27, hc32]; intros; omega)
   have hc32 := hb32; try simp only [bL] at hc32
   refine los F hb32 rfl fun a F => los F hb32 rfl fun a F => los F hb32 rfl fun a F => la F rfl (x_pickF (F.t 32 rfl) hb32 rfl) fun a F => la F rfl (x_assign (F.t 36 rfl)) fun a F => wn (hK9 _ _ ?_)
   refine wp_ret ?_
   try simp only [Exit.then, Exit.inBlock]
   refine fin_ret F (res1 (v := .bool false) F rfl rfl) ⟨?_, H.mods⟩
   congr 2; unfold rightS; first | (simp [hc9, hc23, hc27, hc32]; done) | (simp [hc9, hc23, hc27, hc32]; intros; omega)
  have hc27 := hb27; try simp only [bL] at hc27
  refine los F hb27 rfl fun a F => los F hb27 rfl fun a F => los F hb27 rfl fun a F => la F rfl (x_pickF (F.t 27 rfl) hb27 rfl) fun a F => la F rfl (x_move (F.t 31 rfl)) fun a F => lo F rfl fun a F => lo F rfl fun a F => lo F rfl fun a F => ?_
  refine la F rfl (x_pickF (F.t 32 rfl) rfl rfl) fun a F => la F rfl (x_assign (F.t 36 rfl)) fun a F => wn (hK9 _ _ ?_)
  refine wp_ret ?_
  try simp only [Exit.then, Exit.inBlock]
  refine fin_ret F (res1 (v := .bool false) F rfl rfl) ⟨?_, H.mods⟩
  congr 2; unfold rightS; first | (simp [hc9, hc23, hc27]; done) | (simp [hc9, hc23, hc27]; intros; omega)
 have hk23_4 := hc23; try simp only [bL] at hc23
 refine wp_region_lit ?_
 refine la F rfl (x_eql (F.t 8 rfl) rfl) fun a F => la F rfl (x_assign (F.t 25 rfl)) fun a F => wn (hK7 _ _ ?_)
 refine wp_cond_split (F.t 23 rfl) (fun hc23 => ?_) (fun hc23 => ?_)
 ·have hk23_5 := hc23; try simp only [bL] at hc23
  refine sr fun _ hK10 => la F rfl (x_move (F.t 3 rfl)) fun a F => la F rfl (x_move (F.t 26 rfl)) fun a F => ?_
  refine split_bool F 27 rfl (fun hb27 => ?_) (fun hb27 => ?_)
  ·have hc27 := hb27; try simp only [bL] at hc27
   refine lgs F hb27 rfl (x_faddr Tryz.underlying91 rfl ty9 (by decide) (F.t 1 rfl) rfl) fun a F => lgs F hb27 rfl (x_load1 ty9 (F.t 28 rfl) (blk_cell (H.at 1 rfl) 2 rfl)) fun a F => lgs F hb27 rfl (x_eqn0 (xs := s.2.2.1) (F.t 29 rfl) (show _ = Value.string (strOfNums ([] : List Int)) by kernel_rfl)) fun a F => la F rfl (x_pickT (F.t 27 rfl) hb27 (F.t 30 rfl)) fun a F => la F rfl (x_move (F.t 31 rfl)) fun a F => ?_
   refine split_bool F 32 rfl (fun hb32 => ?_) (fun hb32 => ?_)
   ·have hc32 := hb32; try simp only [bL] at hc32
    refine lgs F hb32 rfl (x_faddr Tryz.underlying91 rfl ty2 (by decide) (F.t 1 rfl) rfl) fun a F => lgs F hb32 rfl (x_load1 ty2 (F.t 33 rfl) (blk_cell (H.at 1 rfl) 3 rfl)) fun a F => lgs F hb32 rfl (x_eql (F.t 34 rfl) rfl) fun a F => la F rfl (x_pickT (F.t 32 rfl) hb32 (F.t 35 rfl)) fun a F => la F rfl (x_assign (F.t 36 rfl)) fun a F => wn (hK10 _ _ ?_)
    refine wp_ret ?_
    try simp only [Exit.then, Exit.inBlock]
    refine fin_ret F (res1 (v := .bool (decide (s.2.2.2 = 0))) F rfl rfl) ⟨?_, H.mods⟩
    congr 2; unfold rightS; first | (simp [hc9, hc23, hc23, hc27, hc32]; done) | (simp [hc9, hc23, hc23, hc27, hc32]; intros; omega)
   have hc32 := hb32; try simp only [bL] at hc32
   refine los F hb32 rfl fun a F => los F hb32 rfl fun a F => los F hb32 rfl fun a F => la F rfl (x_pickF (F.t 32 rfl) hb32 rfl) fun a F => la F rfl (x_assign (F.t 36 rfl)) fun a F => wn (hK10 _ _ ?_)
   refine wp_ret ?_
   try simp only [Exit.then, Exit.inBlock]
   refine fin_ret F (res1 (v := .bool false) F rfl rfl) ⟨?_, H.mods⟩
   congr 2; unfold rightS; first | (simp [hc9, hc23, hc23, hc27, hc32]; done) | (simp [hc9, hc23, hc23, hc27, hc32]; intros; omega)
  have hc27 := hb27; try simp only [bL] at hc27
  refine los F hb27 rfl fun a F => los F hb27 rfl fun a F => los F hb27 rfl fun a F => la F rfl (x_pickF (F.t 27 rfl) hb27 rfl) fun a F => la F rfl (x_move (F.t 31 rfl)) fun a F => lo F rfl fun a F => lo F rfl fun a F => lo F rfl fun a F => ?_
  refine la F rfl (x_pickF (F.t 32 rfl) rfl rfl) fun a F => la F rfl (x_assign (F.t 36 rfl)) fun a F => wn (hK10 _ _ ?_)
  refine wp_ret ?_
  try simp only [Exit.then, Exit.inBlock]
  refine fin_ret F (res1 (v := .bool false) F rfl rfl) ⟨?_, H.mods⟩
  congr 2; unfold rightS; first | (simp [hc9, hc23, hc23, hc27]; done) | (simp [hc9, hc23, hc23, hc27]; intros; omega)
 have hk23_6 := hc23; try simp only [bL] at hc23
 refine sr fun _ hK11 => la F rfl (x_eql (F.t 8 rfl) rfl) fun a F => la F rfl (x_assign (F.t 38 rfl)) fun a F => wn (hK11 _ _ ?_)
 refine wp_cond_split (F.t 37 rfl) (fun hc37 => ?_) (fun hc37 => ?_)
 ·have hk37_7 := hc37; try simp only [bL] at hc37
  refine sr fun _ hK12 => la F rfl (x_move (F.t 3 rfl)) fun a F => la F rfl (x_move (F.t 39 rfl)) fun a F => ?_
  refine split_bool F 40 rfl (fun hb40 => ?_) (fun hb40 => ?_)
  ·have hc40 := hb40; try simp only [bL] at hc40
   refine lgs F hb40 rfl (x_faddr Tryz.underlying91 rfl ty9 (by decide) (F.t 1 rfl) rfl) fun a F => lgs F hb40 rfl (x_load1 ty9 (F.t 41 rfl) (blk_cell (H.at 1 rfl) 2 rfl)) fun a F => lgs F hb40 rfl (x_eqn0 (xs := s.2.2.1) (F.t 42 rfl) (show _ = Value.string (strOfNums ([] : List Int)) by kernel_rfl)) fun a F => la F rfl (x_pickT (F.t 40 rfl) hb40 (F.t 43 rfl)) fun a F => la F rfl (x_assign (F.t 44 rfl)) fun a F => wn (hK12 _ _ ?_)
   refine wp_ret ?_
   try simp only [Exit.then, Exit.inBlock]
   refine fin_ret F (res1 (v := .bool (decide (s.2.2.1.length = 0))) F rfl rfl) ⟨?_, H.mods⟩
   congr 2; unfold rightS; first | (simp [hc9, hc23, hc23, hc37, hc40]; done) | (simp [hc9, hc23, hc23, hc37, hc40]; intros; omega)
  have hc40 := hb40; try simp only [bL] at hc40
  refine los F hb40 rfl fun a F => los F hb40 rfl fun a F => los F hb40 rfl fun a F => la F rfl (x_pickF (F.t 40 rfl) hb40 rfl) fun a F => la F rfl (x_assign (F.t 44 rfl)) fun a F => wn (hK12 _ _ ?_)
  refine wp_ret ?_
  try simp only [Exit.then, Exit.inBlock]
  refine fin_ret F (res1 (v := .bool false) F rfl rfl) ⟨?_, H.mods⟩
  congr 2; unfold rightS; first | (simp [hc9, hc23, hc23, hc37, hc40]; done) | (simp [hc9, hc23, hc23, hc37, hc40]; intros; omega)
 have hk37_8 := hc37; try simp only [bL] at hc37
 refine wp_skip (hK3 _ _ (sr fun _ hK13 => la F rfl (x_assign rfl) fun a F => wn (hK13 _ _ ?_)))
 refine wp_ret ?_
 try simp only [Exit.then, Exit.inBlock]
 refine fin_ret F (res1 (v := .bool false) F rfl rfl) ⟨?_, H.mods⟩
 congr 2; unfold rightS; first | (simp [hc9, hc23, hc23, hc37]; done) | (simp [hc9, hc23, hc23, hc37]; intros; omega)
theorem number_ok (w0 : World) (hL : LibAt true w0) {xs : List Int} (hs : xs.length ≤ 100000000) (hb : Byte xs) {v : Int} (hp : Lib.parseIntB 64 (ofI xs) = .ok v) : Calls Tryz.prog 113 #[.string (strOfNums xs)] w0 fun e w' => ∃ v, e = .returned (.tuple #[.int .i64 v, .bool (numI xs).isSome]) ∧ Mods (fun _ => False) w0 w' ∧ ∀ u, numI xs = some u → v = u := by
 refine cow Tryz.func113 rfl Tryz.ntmps113 (Nat.le_of_ble_eq_true rfl) fun a F => ?_
 have H := Hp.nil (fun _ => False) w0
 have H := H.libN 990 hL
 refine sr fun _ hK1 => la F rfl (x_assign rfl) fun a F => la F rfl (x_assign rfl) fun a F => wn (hK1 _ _ (sr fun _ hK2 => la F rfl (x_move (F.t 0 rfl)) fun a F => ?_))
 refine lp rfl ?_
 refine w_call F (x_enter Tryz.func119 (by kernel_rfl) rfl (by simp only [bM, F.t 7 rfl] <;> rfl)) (parse_ok _ hs hp) rfl rfl ?_
 rintro _ w ⟨rfl, hm_⟩; refine ⟨_, rfl, ?_⟩; clear F; intro a F; have H := H.same hm_
 refine la F rfl (x_move (F.t 8 rfl)) fun a F => la F rfl (x_extract (F.t 6 rfl) rfl) fun a F => la F rfl (x_extract (F.t 6 rfl) rfl) fun a F => la F rfl (x_assign (F.t 9 rfl)) fun a F => la F rfl (x_assign (F.t 10 rfl)) fun a F => wn (hK2 _ _ (sr fun _ hK3 => la F rfl (x_move (F.t 4 rfl)) fun a F => ?_))
 refine la F rfl (x_move (F.t 5 rfl)) fun a F => la F rfl (x_ifnil Tryz.underlying145 (F.t 12 rfl) rfl) fun a F => la F rfl (x_move (F.t 13 rfl)) fun a F => lg F rfl (x_move (F.t 4 rfl)) fun a F => ?_
 refine lpo ((wo F rfl).trans rfl) ?_
 refine w_call F (x_enter Tryz.func99 (by kernel_rfl) rfl (by simp only [bM, F.t 15 rfl] <;> rfl)) (fmt_calls _ (H.holds 990 _ rfl) (parse_fits hp)) rfl rfl ?_
 rintro _ w ⟨rfl, hm_⟩; refine ⟨_, rfl, ?_⟩; clear F; intro a F; have H := H.same hm_
 refine lg F rfl (x_move (F.t 0 rfl)) fun a F => lg F rfl (x_eqn (xs := (itoaI v)) (ys := xs) (F.t 16 rfl) (F.t 17 rfl) (itoaI_byte v) hb) fun a F => la F rfl (x_pickT (F.t 14 rfl) rfl (F.t 18 rfl)) fun a F => la F rfl (x_assign (F.t 11 rfl)) fun a F => la F rfl (x_assign (F.t 19 rfl)) fun a F => wn (hK3 _ _ ?_)
 refine wp_ret ?_
 try simp only [Exit.then, Exit.inBlock]
 have hn := num_ok hb hp
 exact fin_ret F (res2 F rfl rfl rfl) ⟨v, by rw [hn.1] <;> rfl, H.mods, hn.2⟩
theorem number_no (w0 : World) (hL : LibAt true w0) {xs : List Int} (hs : xs.length ≤ 100000000) (hb : Byte xs) (hp : ∀ v, Lib.parseIntB 64 (ofI xs) ≠ .ok v) : Calls Tryz.prog 113 #[.string (strOfNums xs)] w0 fun e w' => ∃ v, e = .returned (.tuple #[.int .i64 v, .bool (numI xs).isSome]) ∧ Mods (fun _ => False) w0 w' ∧ ∀ u, numI xs = some u → v = u := by
 refine cow Tryz.func113 rfl Tryz.ntmps113 (Nat.le_of_ble_eq_true rfl) fun a F => ?_
 have H := Hp.nil (fun _ => False) w0
 have H := H.libN 990 hL
 refine sr fun _ hK1 => la F rfl (x_assign rfl) fun a F => la F rfl (x_assign rfl) fun a F => wn (hK1 _ _ (sr fun _ hK2 => la F rfl (x_move (F.t 0 rfl)) fun a F => ?_))
 refine lp rfl ?_
 refine w_call F (x_enter Tryz.func119 (by kernel_rfl) rfl (by simp only [bM, F.t 7 rfl] <;> rfl)) (parse_no _ (H.holds 990 _ rfl) hs hp) rfl rfl ?_
 rintro _ w ⟨v, te, pe, rfl, hm_⟩; refine ⟨_, rfl, ?_⟩; clear F; intro a F; have H := H.same hm_
 refine la F rfl (x_move (F.t 8 rfl)) fun a F => la F rfl (x_extract (F.t 6 rfl) rfl) fun a F => la F rfl (x_extract (F.t 6 rfl) rfl) fun a F => la F rfl (x_assign (F.t 9 rfl)) fun a F => la F rfl (x_assign (F.t 10 rfl)) fun a F => wn (hK2 _ _ (sr fun _ hK3 => la F rfl (x_move (F.t 4 rfl)) fun a F => ?_))
 refine la F rfl (x_move (F.t 5 rfl)) fun a F => la F rfl (x_ifsome Tryz.underlying145 (F.t 12 rfl) rfl) fun a F => la F rfl (x_move (F.t 13 rfl)) fun a F => lo F rfl fun a F => lo F rfl fun a F => lo F rfl fun a F => lo F rfl fun a F => la F rfl (x_pickF (F.t 14 rfl) rfl rfl) fun a F => ?_
 refine la F rfl (x_assign (F.t 11 rfl)) fun a F => la F rfl (x_assign (F.t 19 rfl)) fun a F => wn (hK3 _ _ ?_)
 refine wp_ret ?_
 try simp only [Exit.then, Exit.inBlock]
 have hn := num_no hp
 exact fin_ret F (res2 F rfl rfl rfl) ⟨v, by rw [hn] <;> rfl, H.mods, fun u hu => by rw [hn] at hu; cases hu⟩
theorem number_calls (w0 : World) (hL : LibAt true w0) {xs : List Int} (hs : xs.length ≤ 100000000) (hb : Byte xs) : Calls Tryz.prog 113 #[.string (strOfNums xs)] w0 fun e w' => ∃ v, e = .returned (.tuple #[.int .i64 v, .bool (numI xs).isSome]) ∧ Mods (fun _ => False) w0 w' ∧ ∀ u, numI xs = some u → v = u := by
 by_cases h : ∃ v, Lib.parseIntB 64 (ofI xs) = .ok v
 ·obtain ⟨v, hp⟩ := h
  exact number_ok w0 hL hs hb hp
 exact number_no w0 hL hs hb (fun v hp => h ⟨v, hp⟩)
theorem text_calls (w0 : World) {n : Int} (hn : Fits n) : Calls Tryz.prog 61 #[.int .i64 n] w0 fun e w' => e = .returned (.string (strOfNums (itoaI n))) ∧ Mods (fun _ => False) w0 w' := by
 refine cow Tryz.func61 rfl Tryz.ntmps61 (Nat.le_of_ble_eq_true rfl) fun a F => ?_
 have H := Hp.nil (fun _ => False) w0
 refine sr fun _ hK1 => la F rfl (x_assign (show _ = Value.string (strOfNums ([] : List Int)) by kernel_rfl)) fun a F => wn (hK1 _ _ (sr fun _ hK2 => la F rfl (x_assign (show _ = Value.string (strOfNums ([] : List Int)) by kernel_rfl)) fun a F => wn (hK2 _ _ (sr fun _ hK3 => la F rfl (x_move (F.t 0 rfl)) fun a F => ?_))))
 refine la F rfl (x_assign (F.t 6 rfl)) fun a F => wn (hK3 _ _ ?_)
 refine wp_seq_k fun _ hK4 => ?_
 refine wp_block ?_
 refine wp_loop_ghost (fun n_ a w => ∃ m : Int, ∃ s : List Int, n_ = m.natAbs + (if s = [] then 1 else 0) ∧ (TextInv n m s) ∧ Fr 32 a [(0, .int .i64 n), (3, .string (strOfNums s)), (4, .int .i64 m)] ∧ Hp (fun _ => False) w0 w []) (n.natAbs + (if ([] : List Int) = [] then 1 else 0)) ?_ ?_
 ·exact ⟨n, [], rfl, TextInv.start hn, (((F.bare.add F 4 rfl).add F 3 rfl).add F 0 rfl), H.sub _ (sub_nil _)⟩
 rintro _ a w ⟨m, s, rfl, hq0_0, F, H⟩
 refine wp_seq_k fun _ hK5 => ?_
 refine sr fun _ hK6 => la F rfl (x_move (F.t 4 rfl)) fun a F => la F rfl (x_neq (F.t 7 rfl) rfl) fun a F => la F rfl (x_move (F.t 8 rfl)) fun a F => ?_
 refine split_bool F 9 rfl (fun hb9 => ?_) (fun hb9 => ?_)
 ·have hc9 := hb9; try simp only [bL] at hc9
  have hcc : ¬ m = 0 ∨ s = [] := .inl hc9
  refine los F hb9 rfl fun a F => los F hb9 rfl fun a F => la F rfl (x_pickT (F.t 9 rfl) hb9 rfl) fun a F => wn (hK6 _ _ ?_)
  refine wp_cond_true (F.t 12 rfl) ?_
  refine wp_skip (hK5 _ _ (wp_block (sr fun _ hK7 => la F rfl (x_move (F.t 4 rfl)) fun a F => la F rfl (x_rem (F.t 13 rfl) rfl (by omega) rfl) fun a F => ?_)))
  have htm := tmod10 m
  refine la F rfl (x_assign (F.t 14 rfl)) fun a F => wn (hK7 _ _ ?_)
  refine wp_seq_k fun _ hK8 => ?_
  refine sr fun _ hK9 => la F rfl (x_move (F.t 5 rfl)) fun a F => la F rfl (x_lss (F.t 15 rfl) rfl) fun a F => wn (hK9 _ _ ?_)
  refine wp_cond_split (F.t 16 rfl) (fun hc16 => ?_) (fun hc16 => ?_)
  ·have hk16_1 := hc16; try simp only [bL] at hc16
   have hst := hq0_0.step hn hcc (k := 0 - Int.tmod m 10) (by omega) (by omega)
   refine wp_region_lit ?_
   refine la F rfl (x_move (F.t 5 rfl)) fun a F => la F rfl (x_neg (F.t 17 rfl) (w64 (by omega) (by omega))) fun a F => la F rfl (x_assign (F.t 18 rfl)) fun a F => wn (hK8 _ _ (sr fun _ hK10 => la F rfl (x_move (F.t 5 rfl)) fun a F => la F rfl (x_move (F.t 5 rfl)) fun a F => la F rfl (x_add (F.t 20 rfl) rfl (w64 (by omega) (by omega))) fun a F => ?_))
   refine la F rfl (x_sliceSlh (xs := ([48, 49, 50, 51, 52, 53, 54, 55, 56, 57] : List Int)) Tryz.underlying9 (show _ = Value.string (strOfNums ([48, 49, 50, 51, 52, 53, 54, 55, 56, 57] : List Int)) by kernel_rfl) (F.t 19 rfl) (F.t 21 rfl) (by omega) (by omega) (by show _ ≤ (10 : Int); omega)) fun a F => ?_
   have hdg := digit_at (k := (0 - Int.tmod m 10)) (by omega) (by omega)
   rw [hdg] at F
   refine la F rfl (x_move (F.t 3 rfl)) fun a F => la F rfl (x_adds (xs := ([48 + (0 - Int.tmod m 10)])) (ys := s) (F.t 22 rfl) (F.t 23 rfl) (by simp only [List.length_cons, List.length_nil]; have := hq0_0.len hn; omega)) fun a F => la F rfl (x_assign (F.t 24 rfl)) fun a F => wn (hK10 _ _ ?_)
   refine wp_region_lit ?_
   refine la F rfl (x_move (F.t 4 rfl)) fun a F => la F rfl (x_quo (F.t 25 rfl) rfl (by omega) (quo10 hq0_0.fits)) fun a F => la F rfl (x_assign (F.t 26 rfl)) fun a F => ?_
   refine wpList_nil ?_
   exact ⟨_, hst.2, ⟨Int.tdiv m 10, ([48 + (0 - Int.tmod m 10)] ++ s), rfl, hst.1, (((F.bare.add F 4 rfl).add F 3 rfl).add F 0 rfl), H.sub _ (sub_nil _)⟩⟩
  have hk16_2 := hc16; try simp only [bL] at hc16
  have hst := hq0_0.step hn hcc (k := Int.tmod m 10) rfl (by omega)
  refine wp_skip (hK8 _ _ (sr fun _ hK11 => la F rfl (x_move (F.t 5 rfl)) fun a F => la F rfl (x_move (F.t 5 rfl)) fun a F => la F rfl (x_add (F.t 20 rfl) rfl (w64 (by omega) (by omega))) fun a F => la F rfl (x_sliceSlh (xs := ([48, 49, 50, 51, 52, 53, 54, 55, 56, 57] : List Int)) Tryz.underlying9 (show _ = Value.string (strOfNums ([48, 49, 50, 51, 52, 53, 54, 55, 56, 57] : List Int)) by kernel_rfl) (F.t 19 rfl) (F.t 21 rfl) (by omega) (by omega) (by show _ ≤ (10 : Int); omega)) fun a F => ?_))
  have hdg := digit_at (k := (Int.tmod m 10)) (by omega) (by omega)
  rw [hdg] at F
  refine la F rfl (x_move (F.t 3 rfl)) fun a F => la F rfl (x_adds (xs := ([48 + (Int.tmod m 10)])) (ys := s) (F.t 22 rfl) (F.t 23 rfl) (by simp only [List.length_cons, List.length_nil]; have := hq0_0.len hn; omega)) fun a F => la F rfl (x_assign (F.t 24 rfl)) fun a F => wn (hK11 _ _ ?_)
  refine wp_region_lit ?_
  refine la F rfl (x_move (F.t 4 rfl)) fun a F => la F rfl (x_quo (F.t 25 rfl) rfl (by omega) (quo10 hq0_0.fits)) fun a F => la F rfl (x_assign (F.t 26 rfl)) fun a F => ?_
  refine wpList_nil ?_
  exact ⟨_, hst.2, ⟨Int.tdiv m 10, ([48 + (Int.tmod m 10)] ++ s), rfl, hst.1, (((F.bare.add F 4 rfl).add F 3 rfl).add F 0 rfl), H.sub _ (sub_nil _)⟩⟩
 have hc9 := hb9; try simp only [bL] at hc9
 have hcm : m = 0 := hc9
 refine lgs F hb9 rfl (x_move (F.t 3 rfl)) fun a F => lgs F hb9 rfl (x_eqn0 (xs := s) (F.t 10 rfl) (show _ = Value.string (strOfNums ([] : List Int)) by kernel_rfl)) fun a F => la F rfl (x_pickF (F.t 9 rfl) hb9 (F.t 11 rfl)) fun a F => wn (hK6 _ _ ?_)
 refine wp_cond_split (F.t 12 rfl) (fun hc12 => ?_) (fun hc12 => ?_)
 ·have hk12_3 := hc12; try simp only [bL] at hc12
  have hcc : ¬ m = 0 ∨ s = [] := .inr (List.eq_nil_of_length_eq_zero hc12)
  refine wp_skip (hK5 _ _ (wp_block (sr fun _ hK12 => la F rfl (x_move (F.t 4 rfl)) fun a F => la F rfl (x_rem (F.t 13 rfl) rfl (by omega) rfl) fun a F => ?_)))
  have htm := tmod10 m
  refine la F rfl (x_assign (F.t 14 rfl)) fun a F => wn (hK12 _ _ ?_)
  refine wp_seq_k fun _ hK13 => ?_
  refine sr fun _ hK14 => la F rfl (x_move (F.t 5 rfl)) fun a F => la F rfl (x_lss (F.t 15 rfl) rfl) fun a F => wn (hK14 _ _ ?_)
  refine wp_cond_split (F.t 16 rfl) (fun hc16 => ?_) (fun hc16 => ?_)
  ·have hk16_4 := hc16; try simp only [bL] at hc16
   have hst := hq0_0.step hn hcc (k := 0 - Int.tmod m 10) (by omega) (by omega)
   refine wp_region_lit ?_
   refine la F rfl (x_move (F.t 5 rfl)) fun a F => la F rfl (x_neg (F.t 17 rfl) (w64 (by omega) (by omega))) fun a F => la F rfl (x_assign (F.t 18 rfl)) fun a F => wn (hK13 _ _ (sr fun _ hK15 => la F rfl (x_move (F.t 5 rfl)) fun a F => la F rfl (x_move (F.t 5 rfl)) fun a F => la F rfl (x_add (F.t 20 rfl) rfl (w64 (by omega) (by omega))) fun a F => ?_))
   refine la F rfl (x_sliceSlh (xs := ([48, 49, 50, 51, 52, 53, 54, 55, 56, 57] : List Int)) Tryz.underlying9 (show _ = Value.string (strOfNums ([48, 49, 50, 51, 52, 53, 54, 55, 56, 57] : List Int)) by kernel_rfl) (F.t 19 rfl) (F.t 21 rfl) (by omega) (by omega) (by show _ ≤ (10 : Int); omega)) fun a F => ?_
   have hdg := digit_at (k := (0 - Int.tmod m 10)) (by omega) (by omega)
   rw [hdg] at F
   refine la F rfl (x_move (F.t 3 rfl)) fun a F => la F rfl (x_adds (xs := ([48 + (0 - Int.tmod m 10)])) (ys := s) (F.t 22 rfl) (F.t 23 rfl) (by simp only [List.length_cons, List.length_nil]; have := hq0_0.len hn; omega)) fun a F => la F rfl (x_assign (F.t 24 rfl)) fun a F => wn (hK15 _ _ ?_)
   refine wp_region_lit ?_
   refine la F rfl (x_move (F.t 4 rfl)) fun a F => la F rfl (x_quo (F.t 25 rfl) rfl (by omega) (quo10 hq0_0.fits)) fun a F => la F rfl (x_assign (F.t 26 rfl)) fun a F => ?_
   refine wpList_nil ?_
   exact ⟨_, hst.2, ⟨Int.tdiv m 10, ([48 + (0 - Int.tmod m 10)] ++ s), rfl, hst.1, (((F.bare.add F 4 rfl).add F 3 rfl).add F 0 rfl), H.sub _ (sub_nil _)⟩⟩
  have hk16_5 := hc16; try simp only [bL] at hc16
  have hst := hq0_0.step hn hcc (k := Int.tmod m 10) rfl (by omega)
  refine wp_skip (hK13 _ _ (sr fun _ hK16 => la F rfl (x_move (F.t 5 rfl)) fun a F => la F rfl (x_move (F.t 5 rfl)) fun a F => la F rfl (x_add (F.t 20 rfl) rfl (w64 (by omega) (by omega))) fun a F => la F rfl (x_sliceSlh (xs := ([48, 49, 50, 51, 52, 53, 54, 55, 56, 57] : List Int)) Tryz.underlying9 (show _ = Value.string (strOfNums ([48, 49, 50, 51, 52, 53, 54, 55, 56, 57] : List Int)) by kernel_rfl) (F.t 19 rfl) (F.t 21 rfl) (by omega) (by omega) (by show _ ≤ (10 : Int); omega)) fun a F => ?_))
  have hdg := digit_at (k := (Int.tmod m 10)) (by omega) (by omega)
  rw [hdg] at F
  refine la F rfl (x_move (F.t 3 rfl)) fun a F => la F rfl (x_adds (xs := ([48 + (Int.tmod m 10)])) (ys := s) (F.t 22 rfl) (F.t 23 rfl) (by simp only [List.length_cons, List.length_nil]; have := hq0_0.len hn; omega)) fun a F => la F rfl (x_assign (F.t 24 rfl)) fun a F => wn (hK16 _ _ ?_)
  refine wp_region_lit ?_
  refine la F rfl (x_move (F.t 4 rfl)) fun a F => la F rfl (x_quo (F.t 25 rfl) rfl (by omega) (quo10 hq0_0.fits)) fun a F => la F rfl (x_assign (F.t 26 rfl)) fun a F => ?_
  refine wpList_nil ?_
  exact ⟨_, hst.2, ⟨Int.tdiv m 10, ([48 + (Int.tmod m 10)] ++ s), rfl, hst.1, (((F.bare.add F 4 rfl).add F 3 rfl).add F 0 rfl), H.sub _ (sub_nil _)⟩⟩
 have hk12_6 := hc12; try simp only [bL] at hc12
 have hdone := hq0_0.fin hcm hc12
 refine wp_exit ?_
 refine hK4 _ _ ?_
 refine wp_seq_k fun _ hK17 => ?_
 refine sr fun _ hK18 => la F rfl (x_move (F.t 0 rfl)) fun a F => la F rfl (x_lss (F.t 27 rfl) rfl) fun a F => wn (hK18 _ _ ?_)
 refine wp_cond_split (F.t 28 rfl) (fun hc28 => ?_) (fun hc28 => ?_)
 ·have hk28_7 := hc28; try simp only [bL] at hc28
  have hz := text_neg hc28 hdone
  refine wp_region_lit ?_
  refine la F rfl (x_move (F.t 3 rfl)) fun a F => la F rfl (x_adds (xs := ([45] : List Int)) (ys := s) (show _ = Value.string (strOfNums ([45] : List Int)) by kernel_rfl) (F.t 29 rfl) (by simp only [List.length_cons, List.length_nil]; have := hq0_0.len hn; omega)) fun a F => la F rfl (x_assign (F.t 30 rfl)) fun a F => wn (hK17 _ _ (sr fun _ hK19 => la F rfl (x_move (F.t 3 rfl)) fun a F => la F rfl (x_assign (F.t 31 rfl)) fun a F => wn (hK19 _ _ ?_)))
  refine wp_ret ?_
  try simp only [Exit.then, Exit.inBlock]
  exact fin_ret F (res1 F rfl rfl) ⟨by rw [← hz] <;> rfl, H.mods⟩
 have hk28_8 := hc28; try simp only [bL] at hc28
 have hz := text_pos hc28 hdone
 refine wp_skip (hK17 _ _ (sr fun _ hK20 => la F rfl (x_move (F.t 3 rfl)) fun a F => la F rfl (x_assign (F.t 31 rfl)) fun a F => wn (hK20 _ _ ?_)))
 refine wp_ret ?_
 try simp only [Exit.then, Exit.inBlock]
 exact fin_ret F (res1 F rfl rfl) ⟨by rw [← hz] <;> rfl, H.mods⟩
theorem aenc_calls (w0 : World) {pp : Bool} (hL : LibAt pp w0) {ok : Nat → Prop} {A : Option Addr} {xs : List StepD} {c : Nat} (hr : Rd StE w0 ok A xs c) (hbs : ∀ s ∈ xs, StepB s) : Calls Tryz.prog 68 #[.slice A xs.length c] w0 fun e w' => ∃ v, e = .returned (.tuple #[v, .int .i64 (encE xs)]) ∧ Mods (fun _ => False) w0 w' ∧ RowOut (.int .u8) 5 w0 w' v (encT xs) := by
 refine cow Tryz.func68 rfl Tryz.ntmps68 (Nat.le_of_ble_eq_true rfl) fun a F => ?_
 have H := Hp.nil (fun _ => False) w0
 have H := H.arg 901 hr.all (fun _ h => ⟨h, fun h => h⟩)
 have hle901 := hr.le; unfold maxLen at hle901
 have H := H.libN 990 hL
 refine sr fun _ hK1 => la F rfl (x_assign rfl) fun a F => la F rfl (x_assign rfl) fun a F => wn (hK1 _ _ ?_)
 refine wp_seq_k fun _ hK2 => ?_
 refine sr fun _ hK3 => la F rfl (x_move (F.t 0 rfl)) fun a F => la F rfl (x_len_slice Tryz.underlying62 (F.t 8 rfl)) fun a F => la F rfl (x_gtr (F.t 9 rfl) rfl) fun a F => wn (hK3 _ _ ?_)
 refine wp_cond_split (F.t 10 rfl) (fun hc10 => ?_) (fun hc10 => ?_)
 ·have hk10_1 := hc10; try simp only [bL] at hc10
  have hz := enc_many hc10
  refine sr fun _ hK4 => la F rfl (x_assign rfl) fun a F => la F rfl (x_assign rfl) fun a F => wn (hK4 _ _ ?_)
  refine wp_ret ?_
  try simp only [Exit.then, Exit.inBlock]
  have hz2 := encT_0 (xs := xs) (by rw [hz]; decide)
  exact fin_ret F (res2 F rfl rfl rfl) ⟨.slice none 0 0, by rw [hz] <;> rfl, H.mods, by rw [hz2]; exact RowOut.nil _ _ _ _⟩
 have hk10_2 := hc10; try simp only [bL] at hc10
 refine wp_skip (hK2 _ _ (sr fun _ hK5 => la F rfl (x_assign rfl) fun a F => ?_))
 have H := H.row0 4 FE 57
 refine wn (hK5 _ _ ?_)
 refine wp_seq_k fun _ hK6 => ?_
 refine sr fun _ hK7 => la F rfl (x_move (F.t 0 rfl)) fun a F => la F rfl (x_len_slice Tryz.underlying62 (F.t 11 rfl)) fun a F => la F rfl (x_move rfl) fun a F => wn (hK7 _ _ (wp_block ?_))
 refine wp_loop_ghost (fun n_ a w => ∃ k : Nat, ∃ v4 : Value, ∃ okv : Nat → Prop, n_ = xs.length - k ∧ (k ≤ xs.length) ∧ ((xs.take k).all rightS = true) ∧ Fr 49 a [(4, v4), (11, .slice A xs.length c), (12, .int .i64 (xs.length : Int)), (13, .int .i64 (k : Int))] ∧ Hp (fun _ => False) w0 w [(901, .rd_ StE A xs c (fun k => k < w0.heap.size)), (990, .lib pp), (4, .row FE 57 v4 ((xs.take k).map fldS) okv)]) (xs.length) ?_ ?_
 ·exact ⟨0, .slice none 0 0, (fun _ => False), rfl, by omega, rfl, ((((F.bare.add F 13 rfl).add F 12 rfl).add F 11 rfl).add F 4 rfl), H.sub _ (sub_cons (sub_cons (sub_cons (sub_nil _) 4 rfl) 990 rfl) 901 rfl)⟩
 rintro _ a w ⟨k, v4, okv, rfl, hq0_0, hq0_1, F, H⟩
 refine sr fun _ hK8 => la F rfl (x_lss (F.t 13 rfl) (F.t 12 rfl)) fun a F => wn (hK8 _ _ ?_)
 refine wp_seq_k fun _ hK9 => ?_
 refine wp_cond_split (F.t 14 rfl) (fun hc14 => ?_) (fun hc14 => ?_)
 ·have hk14_3 := hc14; try simp only [bL] at hc14
  refine wp_skip (hK9 _ _ ?_)
  refine wp_seq_k fun _ hK10 => ?_
  refine wp_block (sr fun _ hK11 => ?_)
  obtain ⟨hf1_0, hf1_1, hf1_2, hf1_3, hfw1⟩ := rd_st ((H.rd 901 rfl)) (gst_some (xs := xs) (i := (k : Int)) (by omega) (by omega))
  have H := H.subcels 901 rfl 1499 hfw1 (Rd.inok ((H.rd 901 rfl)) (by omega) _)
  have H := H.subcel 901 rfl 1500 hf1_0 (Rd.inok ((H.rd 901 rfl)) (by omega) _)
  have H := H.subcel 901 rfl 1501 hf1_1 (Rd.inok ((H.rd 901 rfl)) (by omega) _)
  have H := H.subcel 901 rfl 1502 hf1_2 (Rd.inok ((H.rd 901 rfl)) (by omega) _)
  have H := H.subcel 901 rfl 1503 hf1_3 (Rd.inok ((H.rd 901 rfl)) (by omega) _)
  have hmem := gst_mem (xs := xs) (j := k) (by omega)
  refine la F rfl (x_iaddr_A Tryz.underlying62 ty91 ((H.rd 901 rfl)) (F.t 11 rfl) (F.t 13 rfl) (by omega) (by omega) _) fun a F => la F rfl (x_loadn ty91 (F.t 15 rfl) rfl (H.holds 1499 _ rfl)) fun a F => ?_
  refine lp rfl ?_
  refine w_alloc 6 F H rfl ty91 ?_
  clear F H; intro a w b6 F H
  refine lp rfl ?_
  refine w_storeA 6 H ty91 rfl (F.t 6 rfl) (F.t 16 rfl) rfl (by simp [Value.cells, Value.oneCell']) rfl ?_
  clear H; intro w H
  refine wn (hK11 _ _ ?_)
  refine wp_seq_k fun _ hK12 => ?_
  refine sr fun _ hK13 => la F rfl (x_loadn ty91 (F.t 6 rfl) rfl (blk_whole (H.at 6 rfl))) fun a F => ?_
  refine lp rfl ?_
  refine w_call F (x_enter Tryz.func98 (by kernel_rfl) rfl (by simp only [bM, F.t 17 rfl] <;> rfl)) (right_calls _ (gst xs (k : Int))) rfl rfl ?_
  rintro _ w ⟨rfl, hm_⟩; refine ⟨_, rfl, ?_⟩; clear F; intro a F; have H := H.same hm_
  refine la F rfl (x_not (F.t 18 rfl)) fun a F => wn (hK13 _ _ ?_)
  refine wp_cond_split (F.t 19 rfl) (fun hc19 => ?_) (fun hc19 => ?_)
  ·have hk19_4 := hc19; try simp only [bL] at hc19
   have hz := enc_bad hc10 (by omega) (by simpa using hc19)
   refine sr fun _ hK14 => la F rfl (x_assign rfl) fun a F => la F rfl (x_assign rfl) fun a F => wn (hK14 _ _ ?_)
   refine wp_ret ?_
   try simp only [Exit.then, Exit.inBlock]
   have hz2 := encT_0 (xs := xs) (by rw [hz]; decide)
   exact fin_ret F (res2 F rfl rfl rfl) ⟨.slice none 0 0, by rw [hz] <;> rfl, H.mods, by rw [hz2]; exact RowOut.nil _ _ _ _⟩
  have hk19_5 := hc19; try simp only [bL] at hc19
  have hc18 : rightS (gst xs (k : Int)) = true := by simpa using hc19
  refine wp_skip (hK12 _ _ (sr fun _ hK15 => la F rfl (x_faddr Tryz.underlying91 rfl ty9 (by decide) (F.t 6 rfl) rfl) fun a F => la F rfl (x_load1 ty9 (F.t 20 rfl) (blk_cell (H.at 6 rfl) 2 rfl)) fun a F => la F rfl (x_assign (F.t 21 rfl)) fun a F => wn (hK15 _ _ ?_)))
  refine wp_seq_k fun _ hK16 => ?_
  refine sr fun _ hK17 => la F rfl (x_faddr Tryz.underlying91 rfl ty89 (by decide) (F.t 6 rfl) rfl) fun a F => la F rfl (x_load1 ty89 (F.t 22 rfl) (blk_cell (H.at 6 rfl) 0 rfl)) fun a F => la F rfl (x_eql (F.t 23 rfl) rfl) fun a F => wn (hK17 _ _ ?_)
  refine wp_cond_split (F.t 24 rfl) (fun hc24 => ?_) (fun hc24 => ?_)
  ·have hk24_6 := hc24; try simp only [bL] at hc24
   refine wp_region_lit ?_
   refine la F rfl (x_faddr Tryz.underlying91 rfl ty2 (by decide) (F.t 6 rfl) rfl) fun a F => la F rfl (x_load1 ty2 (F.t 25 rfl) (blk_cell (H.at 6 rfl) 3 rfl)) fun a F => ?_
   refine lp rfl ?_
   refine w_call F (x_enter Tryz.func99 (by kernel_rfl) rfl (by simp only [bM, F.t 26 rfl] <;> rfl)) (fmt_calls _ (H.holds 990 _ rfl) (hbs _ hmem).2.2) rfl rfl ?_
   rintro _ w ⟨rfl, hm_⟩; refine ⟨_, rfl, ?_⟩; clear F; intro a F; have H := H.same hm_
   refine la F rfl (x_assign (F.t 27 rfl)) fun a F => wn (hK16 _ _ ?_)
   refine r_start [(6, .blk b6 (.cells #[.int .i64 (gst xs (k : Int)).1, .string (strOfNums (gst xs (k : Int)).2.1), .string (strOfNums (gst xs (k : Int)).2.2.1), .int .i64 (gst xs (k : Int)).2.2.2] 91 (0, 0)))] (by kernel_rfl) H fun H => ?_
   have hS : SL [(6, .blk b6 (.cells #[.int .i64 (gst xs (k : Int)).1, .string (strOfNums (gst xs (k : Int)).2.1), .string (strOfNums (gst xs (k : Int)).2.2.1), .int .i64 (gst xs (k : Int)).2.2.2] 91 (0, 0)))] _ := SL.of H (sub_cons (sub_nil _) 6 rfl)
   rw [restS_add hc24] at F
   refine rT 0 F rfl (by kernel_rfl) pq rfl hS (fun w hS => x_move (F.t 4 rfl)) rfl fun a F => ?_
   refine rT 1 F rfl (by kernel_rfl) pq rfl hS (fun w hS => x_faddr Tryz.underlying91 rfl ty89 (by decide) (F.t 6 rfl) rfl) rfl fun a F => ?_
   refine rT 2 F rfl (by kernel_rfl) pq rfl hS (fun w hS => x_load1 ty89 (F.t 29 rfl) (blk_cell (SL.at_ hS 6 rfl) 0 rfl)) rfl fun a F => ?_
   refine rT 3 F rfl (by kernel_rfl) pq rfl hS (fun w hS => x_faddr Tryz.underlying91 rfl ty9 (by decide) (F.t 6 rfl) rfl) rfl fun a F => ?_
   refine rT 4 F rfl (by kernel_rfl) pq rfl hS (fun w hS => x_load1 ty9 (F.t 31 rfl) (blk_cell (SL.at_ hS 6 rfl) 1 rfl)) rfl fun a F => ?_
   refine rT 5 F rfl (by kernel_rfl) pq rfl hS (fun w hS => x_len_sn (xs := ((gst xs (k : Int)).2.1)) Tryz.underlying9 (F.t 32 rfl)) rfl fun a F => ?_
   refine rT 6 F rfl (by kernel_rfl) pq rfl hS (fun w hS => x_conv Tryz.underlying5 ⟨_, Tryz.underlying3⟩ (F.t 33 rfl) (key_wrap hc18)) rfl fun a F => ?_
   refine rT 8 F rfl (by kernel_rfl) pq rfl hS (fun w hS => x_faddr Tryz.underlying91 rfl ty9 (by decide) (F.t 6 rfl) rfl) rfl fun a F => ?_
   refine rT 9 F rfl (by kernel_rfl) pq rfl hS (fun w hS => x_load1 ty9 (F.t 36 rfl) (blk_cell (SL.at_ hS 6 rfl) 1 rfl)) rfl fun a F => ?_
   refine rT 10 F rfl (by kernel_rfl) pq rfl hS (fun w hS => x_move (F.t 7 rfl)) rfl fun a F => ?_
   refine rT 11 F rfl (by kernel_rfl) pq rfl hS (fun w hS => x_adds (xs := ((gst xs (k : Int)).2.1)) (ys := (restS (gst xs (k : Int)))) (F.t 37 rfl) (F.t 38 rfl) (by have := key_len hc18; have := restS_len hc18 (hbs _ hmem); omega)) rfl fun a F => ?_
   refine r_do 7 rfl (by kernel_rfl) rfl rfl ?_
   refine w_lit 40 (enc := Value.int .u8) (h1 := fun _ => rfl) ([((gst xs (k : Int)).2.1.length : Int)]) F H rfl Tryz.underlying27 ty5 (by simp only [bM, F.t 34 rfl]; rfl) rfl (by decide) (by decide) (by kernel_rfl) ?_
   clear F H; intro a w b35 F H
   refine aN (SL.of H (sub_cons (sub_nil _) 6 rfl)) fun hS => ?_
   refine r_do 12 rfl (by kernel_rfl) rfl rfl ?_
   refine w_appendS 40 (xs := ([((gst xs (k : Int)).2.1.length : Int)])) (ys := (((gst xs (k : Int)).2.1) ++ (restS (gst xs (k : Int))))) F H rfl Tryz.underlying27 Tryz.underlying9 ty5 rfl (F.t 35 rfl) (F.t 39 rfl) ((hbs _ hmem).1.app (restS_byte (hbs _ hmem))) (by have := key_len hc18; have := restS_len hc18 (hbs _ hmem); simp only [List.length_cons, List.length_nil, List.length_append]; omega) ?_
   clear F H; intro a w v40 F H
   refine aN (SL.of H (sub_cons (sub_nil _) 6 rfl)) fun hS => ?_
   obtain ⟨A40, c40, rfl⟩ := (H.row 40 rfl).form
   have H := H.freeze 40 rfl (fun kb => (Value.slice A40 (([((gst xs (k : Int)).2.1.length : Int)]) ++ (((gst xs (k : Int)).2.1) ++ (restS (gst xs (k : Int))))).length c40).ownBlock = some kb) (fun kb => ⟨fun h => .inr h, fun h => h.resolve_left id⟩)
   refine rT 13 F rfl (by kernel_rfl) pq rfl hS (fun w hS => x_buildS (cells := #[.int .i64 (gst xs (k : Int)).1, .slice A40 (([((gst xs (k : Int)).2.1.length : Int)]) ++ (((gst xs (k : Int)).2.1) ++ (restS (gst xs (k : Int))))).length c40]) (places := #[(0, 1), (1, 1)]) Tryz.underlying57 ty57 (by kernel_rfl) (by simp only [bM, F.t 30 rfl, F.t 40 rfl] <;> rfl) rfl) rfl fun a F => ?_
   refine r_do 14 rfl (by kernel_rfl) rfl rfl ?_
   refine w_lit1 42 FE (((gst xs (k : Int)).1, (([((gst xs (k : Int)).2.1.length : Int)]) ++ (((gst xs (k : Int)).2.1) ++ (restS (gst xs (k : Int)))))) : Fld) #[.int .i64 ((gst xs (k : Int)).1), .slice A40 (([((gst xs (k : Int)).2.1.length : Int)]) ++ (((gst xs (k : Int)).2.1) ++ (restS (gst xs (k : Int))))).length c40] (fun kb => (Value.slice A40 (([((gst xs (k : Int)).2.1.length : Int)]) ++ (((gst xs (k : Int)).2.1) ++ (restS (gst xs (k : Int))))).length c40).ownBlock = some kb) F H rfl Tryz.underlying60 ty57 (by simp only [bM, F.t 41 rfl] <;> rfl) (by decide) (by kernel_rfl) (fld_mk (f := (((gst xs (k : Int)).1, (([((gst xs (k : Int)).2.1.length : Int)]) ++ (((gst xs (k : Int)).2.1) ++ (restS (gst xs (k : Int)))))) : Fld)) (H.rd 40 rfl)) (fun kb hk => ⟨40, _, rfl, hk⟩) ?_
   clear F H; intro a w b42 F hb42_ H
   refine aN (SL.of H (sub_cons (sub_nil _) 6 rfl)) fun hS => ?_
   refine r_do 15 rfl (by kernel_rfl) rfl rfl ?_
   refine w_append 4 42 (xs := ((xs.take k).map fldS)) (ys := ([(((gst xs (k : Int)).1, (([((gst xs (k : Int)).2.1.length : Int)]) ++ (((gst xs (k : Int)).2.1) ++ (restS (gst xs (k : Int)))))) : Fld)])) F H rfl Tryz.underlying60 ty57 rfl rfl rfl rfl ((H.rd 42 rfl)) oI (F.t 28 rfl) (F.t 42 rfl) (by rw [List.length_map, List.length_take]; simp only [List.length_cons, List.length_nil]; omega) (by rw [List.length_map, List.length_take]; simp only [List.length_cons, List.length_nil, maxLen]; omega) (fun kb => okv kb ∨ (fun kb => (fun kb => (Value.slice A40 (([((gst xs (k : Int)).2.1.length : Int)]) ++ (((gst xs (k : Int)).2.1) ++ (restS (gst xs (k : Int))))).length c40).ownBlock = some kb) kb ∨ kb = b42) kb) (fun w' v' h => h) (by rintro k_ (hk_ | hk_); exact .inl hk_; exact .inr hk_) ?_
   clear F H; intro a w v43 F H
   refine aN (SL.of H (sub_cons (sub_nil _) 6 rfl)) fun hS => ?_
   refine rT 16 F rfl (by kernel_rfl) pq rfl hS (fun w hS => x_assign (F.t 43 rfl)) rfl fun a F => ?_
   refine r_end (by kernel_rfl) ?_; clear hS
   refine hK10 _ _ ?_
   refine wp_region_lit ?_
   refine la F rfl (x_add (F.t 13 rfl) rfl (w64 (by omega) (by omega))) fun a F => la F rfl (x_move (F.t 44 rfl)) fun a F => ?_
   refine wpList_nil ?_
   have hHs : Hp (fun _ => False) w0 w [(901, .rd_ StE A xs c (fun k => k < w0.heap.size)), (990, .lib pp), (4, .row FE 57 v43 (((xs.take k).map fldS) ++ [(((gst xs (k : Int)).1, ([(((gst xs (k : Int)).2.1.length : Int))] ++ ((gst xs (k : Int)).2.1 ++ restS (gst xs (k : Int))))) : Fld)]) (fun kb => okv kb ∨ (fun kb => (fun kb => (Value.slice A40 (([((gst xs (k : Int)).2.1.length : Int)]) ++ (((gst xs (k : Int)).2.1) ++ (restS (gst xs (k : Int))))).length c40).ownBlock = some kb) kb ∨ kb = b42) kb))] := H.sub _ (sub_cons (sub_cons (sub_cons (sub_nil _) 4 rfl) 990 rfl) 901 rfl)
   rw [show ((xs.take k).map fldS) ++ [(((gst xs (k : Int)).1, ([(((gst xs (k : Int)).2.1.length : Int))] ++ ((gst xs (k : Int)).2.1 ++ restS (gst xs (k : Int))))) : Fld)] = (xs.take (k + 1)).map fldS from fld_stepL hc14] at hHs
   exact ⟨_, by omega, ⟨k + 1, v43, (fun kb => okv kb ∨ (fun kb => (fun kb => (Value.slice A40 (([((gst xs (k : Int)).2.1.length : Int)]) ++ (((gst xs (k : Int)).2.1) ++ (restS (gst xs (k : Int))))).length c40).ownBlock = some kb) kb ∨ kb = b42) kb), rfl, by omega, right_step hc14 hq0_1 hc18, ((((F.bare.add F 13 rfl).add F 12 rfl).add F 11 rfl).add F 4 rfl), hHs⟩⟩
  have hk24_7 := hc24; try simp only [bL] at hc24
  refine wp_skip (hK16 _ _ ?_)
  refine r_start [(6, .blk b6 (.cells #[.int .i64 (gst xs (k : Int)).1, .string (strOfNums (gst xs (k : Int)).2.1), .string (strOfNums (gst xs (k : Int)).2.2.1), .int .i64 (gst xs (k : Int)).2.2.2] 91 (0, 0)))] (by kernel_rfl) H fun H => ?_
  have hS : SL [(6, .blk b6 (.cells #[.int .i64 (gst xs (k : Int)).1, .string (strOfNums (gst xs (k : Int)).2.1), .string (strOfNums (gst xs (k : Int)).2.2.1), .int .i64 (gst xs (k : Int)).2.2.2] 91 (0, 0)))] _ := SL.of H (sub_cons (sub_nil _) 6 rfl)
  rw [restS_val hc24] at F
  refine rT 0 F rfl (by kernel_rfl) pq rfl hS (fun w hS => x_move (F.t 4 rfl)) rfl fun a F => ?_
  refine rT 1 F rfl (by kernel_rfl) pq rfl hS (fun w hS => x_faddr Tryz.underlying91 rfl ty89 (by decide) (F.t 6 rfl) rfl) rfl fun a F => ?_
  refine rT 2 F rfl (by kernel_rfl) pq rfl hS (fun w hS => x_load1 ty89 (F.t 29 rfl) (blk_cell (SL.at_ hS 6 rfl) 0 rfl)) rfl fun a F => ?_
  refine rT 3 F rfl (by kernel_rfl) pq rfl hS (fun w hS => x_faddr Tryz.underlying91 rfl ty9 (by decide) (F.t 6 rfl) rfl) rfl fun a F => ?_
  refine rT 4 F rfl (by kernel_rfl) pq rfl hS (fun w hS => x_load1 ty9 (F.t 31 rfl) (blk_cell (SL.at_ hS 6 rfl) 1 rfl)) rfl fun a F => ?_
  refine rT 5 F rfl (by kernel_rfl) pq rfl hS (fun w hS => x_len_sn (xs := ((gst xs (k : Int)).2.1)) Tryz.underlying9 (F.t 32 rfl)) rfl fun a F => ?_
  refine rT 6 F rfl (by kernel_rfl) pq rfl hS (fun w hS => x_conv Tryz.underlying5 ⟨_, Tryz.underlying3⟩ (F.t 33 rfl) (key_wrap hc18)) rfl fun a F => ?_
  refine rT 8 F rfl (by kernel_rfl) pq rfl hS (fun w hS => x_faddr Tryz.underlying91 rfl ty9 (by decide) (F.t 6 rfl) rfl) rfl fun a F => ?_
  refine rT 9 F rfl (by kernel_rfl) pq rfl hS (fun w hS => x_load1 ty9 (F.t 36 rfl) (blk_cell (SL.at_ hS 6 rfl) 1 rfl)) rfl fun a F => ?_
  refine rT 10 F rfl (by kernel_rfl) pq rfl hS (fun w hS => x_move (F.t 7 rfl)) rfl fun a F => ?_
  refine rT 11 F rfl (by kernel_rfl) pq rfl hS (fun w hS => x_adds (xs := ((gst xs (k : Int)).2.1)) (ys := (restS (gst xs (k : Int)))) (F.t 37 rfl) (F.t 38 rfl) (by have := key_len hc18; have := restS_len hc18 (hbs _ hmem); omega)) rfl fun a F => ?_
  refine r_do 7 rfl (by kernel_rfl) rfl rfl ?_
  refine w_lit 40 (enc := Value.int .u8) (h1 := fun _ => rfl) ([((gst xs (k : Int)).2.1.length : Int)]) F H rfl Tryz.underlying27 ty5 (by simp only [bM, F.t 34 rfl]; rfl) rfl (by decide) (by decide) (by kernel_rfl) ?_
  clear F H; intro a w b35 F H
  refine aN (SL.of H (sub_cons (sub_nil _) 6 rfl)) fun hS => ?_
  refine r_do 12 rfl (by kernel_rfl) rfl rfl ?_
  refine w_appendS 40 (xs := ([((gst xs (k : Int)).2.1.length : Int)])) (ys := (((gst xs (k : Int)).2.1) ++ (restS (gst xs (k : Int))))) F H rfl Tryz.underlying27 Tryz.underlying9 ty5 rfl (F.t 35 rfl) (F.t 39 rfl) ((hbs _ hmem).1.app (restS_byte (hbs _ hmem))) (by have := key_len hc18; have := restS_len hc18 (hbs _ hmem); simp only [List.length_cons, List.length_nil, List.length_append]; omega) ?_
  clear F H; intro a w v40 F H
  refine aN (SL.of H (sub_cons (sub_nil _) 6 rfl)) fun hS => ?_
  obtain ⟨A40, c40, rfl⟩ := (H.row 40 rfl).form
  have H := H.freeze 40 rfl (fun kb => (Value.slice A40 (([((gst xs (k : Int)).2.1.length : Int)]) ++ (((gst xs (k : Int)).2.1) ++ (restS (gst xs (k : Int))))).length c40).ownBlock = some kb) (fun kb => ⟨fun h => .inr h, fun h => h.resolve_left id⟩)
  refine rT 13 F rfl (by kernel_rfl) pq rfl hS (fun w hS => x_buildS (cells := #[.int .i64 (gst xs (k : Int)).1, .slice A40 (([((gst xs (k : Int)).2.1.length : Int)]) ++ (((gst xs (k : Int)).2.1) ++ (restS (gst xs (k : Int))))).length c40]) (places := #[(0, 1), (1, 1)]) Tryz.underlying57 ty57 (by kernel_rfl) (by simp only [bM, F.t 30 rfl, F.t 40 rfl] <;> rfl) rfl) rfl fun a F => ?_
  refine r_do 14 rfl (by kernel_rfl) rfl rfl ?_
  refine w_lit1 42 FE (((gst xs (k : Int)).1, (([((gst xs (k : Int)).2.1.length : Int)]) ++ (((gst xs (k : Int)).2.1) ++ (restS (gst xs (k : Int)))))) : Fld) #[.int .i64 ((gst xs (k : Int)).1), .slice A40 (([((gst xs (k : Int)).2.1.length : Int)]) ++ (((gst xs (k : Int)).2.1) ++ (restS (gst xs (k : Int))))).length c40] (fun kb => (Value.slice A40 (([((gst xs (k : Int)).2.1.length : Int)]) ++ (((gst xs (k : Int)).2.1) ++ (restS (gst xs (k : Int))))).length c40).ownBlock = some kb) F H rfl Tryz.underlying60 ty57 (by simp only [bM, F.t 41 rfl] <;> rfl) (by decide) (by kernel_rfl) (fld_mk (f := (((gst xs (k : Int)).1, (([((gst xs (k : Int)).2.1.length : Int)]) ++ (((gst xs (k : Int)).2.1) ++ (restS (gst xs (k : Int)))))) : Fld)) (H.rd 40 rfl)) (fun kb hk => ⟨40, _, rfl, hk⟩) ?_
  clear F H; intro a w b42 F hb42_ H
  refine aN (SL.of H (sub_cons (sub_nil _) 6 rfl)) fun hS => ?_
  refine r_do 15 rfl (by kernel_rfl) rfl rfl ?_
  refine w_append 4 42 (xs := ((xs.take k).map fldS)) (ys := ([(((gst xs (k : Int)).1, (([((gst xs (k : Int)).2.1.length : Int)]) ++ (((gst xs (k : Int)).2.1) ++ (restS (gst xs (k : Int)))))) : Fld)])) F H rfl Tryz.underlying60 ty57 rfl rfl rfl rfl ((H.rd 42 rfl)) oI (F.t 28 rfl) (F.t 42 rfl) (by rw [List.length_map, List.length_take]; simp only [List.length_cons, List.length_nil]; omega) (by rw [List.length_map, List.length_take]; simp only [List.length_cons, List.length_nil, maxLen]; omega) (fun kb => okv kb ∨ (fun kb => (fun kb => (Value.slice A40 (([((gst xs (k : Int)).2.1.length : Int)]) ++ (((gst xs (k : Int)).2.1) ++ (restS (gst xs (k : Int))))).length c40).ownBlock = some kb) kb ∨ kb = b42) kb) (fun w' v' h => h) (by rintro k_ (hk_ | hk_); exact .inl hk_; exact .inr hk_) ?_
  clear F H; intro a w v43 F H
  refine aN (SL.of H (sub_cons (sub_nil _) 6 rfl)) fun hS => ?_
  refine rT 16 F rfl (by kernel_rfl) pq rfl hS (fun w hS => x_assign (F.t 43 rfl)) rfl fun a F => ?_
  refine r_end (by kernel_rfl) ?_; clear hS
  refine hK10 _ _ ?_
  refine wp_region_lit ?_
  refine la F rfl (x_add (F.t 13 rfl) rfl (w64 (by omega) (by omega))) fun a F => la F rfl (x_move (F.t 44 rfl)) fun a F => ?_
  refine wpList_nil ?_
  have hHs : Hp (fun _ => False) w0 w [(901, .rd_ StE A xs c (fun k => k < w0.heap.size)), (990, .lib pp), (4, .row FE 57 v43 (((xs.take k).map fldS) ++ [(((gst xs (k : Int)).1, ([(((gst xs (k : Int)).2.1.length : Int))] ++ ((gst xs (k : Int)).2.1 ++ restS (gst xs (k : Int))))) : Fld)]) (fun kb => okv kb ∨ (fun kb => (fun kb => (Value.slice A40 (([((gst xs (k : Int)).2.1.length : Int)]) ++ (((gst xs (k : Int)).2.1) ++ (restS (gst xs (k : Int))))).length c40).ownBlock = some kb) kb ∨ kb = b42) kb))] := H.sub _ (sub_cons (sub_cons (sub_cons (sub_nil _) 4 rfl) 990 rfl) 901 rfl)
  rw [show ((xs.take k).map fldS) ++ [(((gst xs (k : Int)).1, ([(((gst xs (k : Int)).2.1.length : Int))] ++ ((gst xs (k : Int)).2.1 ++ restS (gst xs (k : Int))))) : Fld)] = (xs.take (k + 1)).map fldS from fld_stepL hc14] at hHs
  exact ⟨_, by omega, ⟨k + 1, v43, (fun kb => okv kb ∨ (fun kb => (fun kb => (Value.slice A40 (([((gst xs (k : Int)).2.1.length : Int)]) ++ (((gst xs (k : Int)).2.1) ++ (restS (gst xs (k : Int))))).length c40).ownBlock = some kb) kb ∨ kb = b42) kb), rfl, by omega, right_step hc14 hq0_1 hc18, ((((F.bare.add F 13 rfl).add F 12 rfl).add F 11 rfl).add F 4 rfl), hHs⟩⟩
 have hk14_8 := hc14; try simp only [bL] at hc14
 refine wp_exit ?_
 refine hK6 _ _ (sr fun _ hK18 => ?_)
 obtain rfl : k = xs.length := by omega
 rw [List.take_length] at hq0_1 H
 obtain ⟨Av, cv, rfl⟩ := (H.row 4 rfl).form
 refine la F rfl (x_move (F.t 4 rfl)) fun a F => ?_
 refine lp rfl ?_
 refine w_call F (x_enter Tryz.func30 (by kernel_rfl) rfl (by simp only [bM, F.t 45 rfl] <;> rfl)) (enc_at (xs := xs.map fldS) (Row.rd (ok' := fun k_ => okv k_ ∨ (.slice Av ((xs.map fldS)).length cv : Value).ownBlock = some k_) (H.row 4 rfl) (fun _ hk_ _ => .inl hk_) (fun _ hk_ => .inr hk_)) (encR_of hc10 hq0_1 hbs)) rfl rfl ?_
 rintro _ w ⟨vr46, rfl, hm_, hr_⟩; refine ⟨_, rfl, ?_⟩; clear F; intro a F; have H := Hp.rowOut H 46 hm_ hr_; obtain ⟨Ar46, cr46, rfl⟩ := (H.row 46 rfl).form
 refine la F rfl (x_extract (F.t 46 rfl) rfl) fun a F => la F rfl (x_extract (F.t 46 rfl) rfl) fun a F => la F rfl (x_assign (F.t 47 rfl)) fun a F => la F rfl (x_assign (F.t 48 rfl)) fun a F => wn (hK18 _ _ ?_)
 refine wp_ret ?_
 try simp only [Exit.then, Exit.inBlock]
 have hz := enc_good hc10 hq0_1
 exact fin_ret F (res2 F rfl rfl rfl) ⟨_, by rw [hz] <;> rfl, H.mods, Hp.out H 46 rfl⟩
end Go.Proofs.YtiiklnghnifmjaaGreatDoor.Act
