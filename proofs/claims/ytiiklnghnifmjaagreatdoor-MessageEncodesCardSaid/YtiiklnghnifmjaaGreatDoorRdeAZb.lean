/- A change's and a message's bytes decoded by the document, walked. -/
import Derived.Test.YtiiklnghnifmjaaGreatDoorRecAZb
import Derived.Test.YtiiklnghnifmjaaGreatDoorRdcDZb
import Derived.Test.YtiiklnghnifmjaaGreatDoorRchAZb
import Derived.Test.YtiiklnghnifmjaaGreatDoorActEZb
import Derived.Test.YtiiklnghnifmjaaGreatDoorActTZb
set_option linter.unusedVariables false
set_option maxRecDepth 100000
set_option maxHeartbeats 1000000
set_option linter.unusedSimpArgs false
namespace Go.Proofs.YtiiklnghnifmjaaGreatDoor.Act
open Go.RowKit Go.Proofs.YtiiklnghnifmjaaGreatDoor.Sx Go.Proofs.YtiiklnghnifmjaaGreatDoor.Cod Go.Proofs.YtiiklnghnifmjaaGreatDoor.Num
theorem rnumber_calls (w0 : World) {xs : List Int} (hs : xs.length ≤ 100000000) (hb : Byte xs) : Calls Tryz.prog 104 #[.string (strOfNums xs)] w0 fun e w' => ∃ v, e = .returned (.tuple #[.int .i64 v, .bool (numI xs).isSome]) ∧ Mods (fun _ => False) w0 w' ∧ Fits v ∧ ∀ u, numI xs = some u → v = u := by
 have htl := tOf_len xs
 refine cow Tryz.func104 rfl Tryz.ntmps104 (Nat.le_of_ble_eq_true rfl) fun a F => ?_
 have H := Hp.nil (fun _ => False) w0
 refine sr fun _ hK1 => ?_
 refine la F rfl (x_assign rfl) fun a F => ?_
 refine la F rfl (x_assign rfl) fun a F => ?_
 refine wn (hK1 _ _ ?_)
 refine sr fun _ hK2 => ?_
 refine la F rfl (x_move (F.t 0 rfl)) fun a F => ?_
 refine la F rfl (x_assign (F.t 8 rfl)) fun a F => ?_
 refine wn (hK2 _ _ ?_)
 refine wp_seq_k fun _ hK3 => ?_
 refine sr fun _ hK4 => ?_
 refine la F rfl (x_move (F.t 4 rfl)) fun a F => ?_
 refine la F rfl (x_len_sn (xs := xs) Tryz.underlying9 (F.t 9 rfl)) fun a F => ?_
 refine la F rfl (x_gtr (F.t 10 rfl) rfl) fun a F => ?_
 refine la F rfl (x_move (F.t 11 rfl)) fun a F => ?_
 refine split_bool F 12 rfl (fun hb12 => ?_) (fun hb12 => ?_)
 ·have hc12 := hb12; try simp only [bL] at hc12
  refine lgs F hb12 rfl (x_move (F.t 4 rfl)) fun a F => ?_
  refine lgs F hb12 rfl (x_idxS (xs := xs) Tryz.underlying9 (F.t 13 rfl) rfl hb (by omega) (by omega)) fun a F => ?_
  refine lgs F hb12 rfl (x_eql (F.t 14 rfl) rfl) fun a F => ?_
  refine la F rfl (x_pickT (F.t 12 rfl) hb12 (F.t 15 rfl)) fun a F => ?_
  refine wn (hK4 _ _ ?_)
  refine wp_cond_split (F.t 16 rfl) (fun hc16 => ?_) (fun hc16 => ?_)
  ·have hk16_1 := hc16; try simp only [bL] at hc16
   have htof := tOf_yes (by omega) hc16
   refine wp_region_lit ?_
   refine la F rfl (x_move (F.t 4 rfl)) fun a F => ?_
   refine la F rfl (x_sliceSl (xs := xs) Tryz.underlying9 (F.t 17 rfl) rfl (by omega) (by omega)) fun a F => ?_
   refine la F rfl (x_assign (F.t 18 rfl)) fun a F => ?_
   refine wn (hK3 _ _ ?_)
   refine wp_seq_k fun _ hK5 => ?_
   refine sr fun _ hK6 => ?_
   have F := FrD.add F F 4 (v := .string (strOfNums (tOf xs))) (by rw [htof]; rfl)
   refine la F rfl (x_move (F.t 4 rfl)) fun a F => ?_
   refine la F rfl (x_len_sn (xs := (tOf xs)) Tryz.underlying9 (F.t 19 rfl)) fun a F => ?_
   refine la F rfl (x_lss (F.t 20 rfl) rfl) fun a F => ?_
   refine la F rfl (x_move (F.t 21 rfl)) fun a F => ?_
   refine split_bool F 22 rfl (fun hb22 => ?_) (fun hb22 => ?_)
   ·have hc22 := hb22; try simp only [bL] at hc22
    have hz := rnum_len hb (.inl (by omega))
    refine los F hb22 rfl fun a F => ?_
    refine los F hb22 rfl fun a F => ?_
    refine los F hb22 rfl fun a F => ?_
    refine la F rfl (x_pickT (F.t 22 rfl) hb22 rfl) fun a F => ?_
    refine wn (hK6 _ _ ?_)
    refine wp_cond_true (F.t 26 rfl) ?_
    refine sr fun _ hK7 => ?_
    refine la F rfl (x_assign rfl) fun a F => ?_
    refine la F rfl (x_assign rfl) fun a F => ?_
    refine wn (hK7 _ _ ?_)
    refine wp_ret ?_
    try simp only [Exit.then, Exit.inBlock]
    exact fin_ret F (res2 F rfl rfl rfl) ⟨0, by rw [hz] <;> rfl, H.mods, by decide, fun u hu => by rw [hz] at hu; cases hu⟩
   have hc22 := hb22; try simp only [bL] at hc22
   refine lgs F hb22 rfl (x_move (F.t 4 rfl)) fun a F => ?_
   refine lgs F hb22 rfl (x_len_sn (xs := (tOf xs)) Tryz.underlying9 (F.t 23 rfl)) fun a F => ?_
   refine lgs F hb22 rfl (x_gtr (F.t 24 rfl) rfl) fun a F => ?_
   refine la F rfl (x_pickF (F.t 22 rfl) hb22 (F.t 25 rfl)) fun a F => ?_
   refine wn (hK6 _ _ ?_)
   refine wp_cond_split (F.t 26 rfl) (fun hc26 => ?_) (fun hc26 => ?_)
   ·have hk26_2 := hc26; try simp only [bL] at hc26
    have hz := rnum_len hb (.inr (by omega))
    refine sr fun _ hK8 => ?_
    refine la F rfl (x_assign rfl) fun a F => ?_
    refine la F rfl (x_assign rfl) fun a F => ?_
    refine wn (hK8 _ _ ?_)
    refine wp_ret ?_
    try simp only [Exit.then, Exit.inBlock]
    exact fin_ret F (res2 F rfl rfl rfl) ⟨0, by rw [hz] <;> rfl, H.mods, by decide, fun u hu => by rw [hz] at hu; cases hu⟩
   have hk26_3 := hc26; try simp only [bL] at hc26
   refine wp_skip ?_
   refine hK5 _ _ ?_
   refine sr fun _ hK9 => ?_
   refine la F rfl (x_assign rfl) fun a F => ?_
   refine wn (hK9 _ _ ?_)
   refine wp_seq_k fun _ hK10 => ?_
   refine sr fun _ hK11 => ?_
   refine la F rfl (x_assign rfl) fun a F => ?_
   refine wn (hK11 _ _ ?_)
   refine wp_block ?_
   refine wp_loop_ghost (fun n_ a w => ∃ k : Nat, n_ = (tOf xs).length - k ∧ (k ≤ (tOf xs).length) ∧ (∀ j, j < k → 48 ≤ gi (tOf xs) (j : Int) ∧ gi (tOf xs) (j : Int) ≤ 57) ∧ Fr 65 a [(0, .string (strOfNums xs)), (4, .string (strOfNums (tOf xs))), (5, .int .u64 (valD ((tOf xs).take k))), (6, .int .i64 (k : Int))] ∧ Hp (fun _ => False) w0 w []) ((tOf xs).length) ?_ ?_
   ·exact ⟨0, rfl, by omega, fun j hj => by omega, ((((F.bare.add F 6 rfl).add F 5 rfl).add F 4 rfl).add F 0 rfl), H.sub _ (sub_nil _)⟩
   rintro _ a w ⟨k, rfl, hq0_0, hq0_1, F, H⟩
   refine wp_seq_k fun _ hK12 => ?_
   refine sr fun _ hK13 => ?_
   refine la F rfl (x_move (F.t 6 rfl)) fun a F => ?_
   refine la F rfl (x_move (F.t 4 rfl)) fun a F => ?_
   refine la F rfl (x_len_sn (xs := (tOf xs)) Tryz.underlying9 (F.t 28 rfl)) fun a F => ?_
   refine la F rfl (x_lss (F.t 27 rfl) (F.t 29 rfl)) fun a F => ?_
   refine wn (hK13 _ _ ?_)
   refine wp_cond_split (F.t 30 rfl) (fun hc30 => ?_) (fun hc30 => ?_)
   ·have hk30_4 := hc30; try simp only [bL] at hc30
    refine wp_skip ?_
    refine hK12 _ _ ?_
    refine wp_seq_k fun _ hK14 => ?_
    refine wp_block ?_
    refine wp_seq_k fun _ hK15 => ?_
    refine sr fun _ hK16 => ?_
    refine la F rfl (x_move (F.t 4 rfl)) fun a F => ?_
    refine la F rfl (x_move (F.t 6 rfl)) fun a F => ?_
    refine la F rfl (x_idxS (xs := (tOf xs)) Tryz.underlying9 (F.t 33 rfl) (F.t 34 rfl) (tOf_byte hb) (by omega) (by omega)) fun a F => ?_
    refine la F rfl (x_lss (F.t 35 rfl) rfl) fun a F => ?_
    refine la F rfl (x_move (F.t 36 rfl)) fun a F => ?_
    refine split_bool F 37 rfl (fun hb37 => ?_) (fun hb37 => ?_)
    ·have hc37 := hb37; try simp only [bL] at hc37
     have hz := rnum_dig hb (k := k) (by omega) (.inl hc37)
     refine los F hb37 rfl fun a F => ?_
     refine los F hb37 rfl fun a F => ?_
     refine los F hb37 rfl fun a F => ?_
     refine los F hb37 rfl fun a F => ?_
     refine la F rfl (x_pickT (F.t 37 rfl) hb37 rfl) fun a F => ?_
     refine wn (hK16 _ _ ?_)
     refine wp_cond_true (F.t 42 rfl) ?_
     refine sr fun _ hK17 => ?_
     refine la F rfl (x_assign rfl) fun a F => ?_
     refine la F rfl (x_assign rfl) fun a F => ?_
     refine wn (hK17 _ _ ?_)
     refine wp_ret ?_
     try simp only [Exit.then, Exit.inBlock]
     exact fin_ret F (res2 F rfl rfl rfl) ⟨0, by rw [hz] <;> rfl, H.mods, by decide, fun u hu => by rw [hz] at hu; cases hu⟩
    have hc37 := hb37; try simp only [bL] at hc37
    refine lgs F hb37 rfl (x_move (F.t 4 rfl)) fun a F => ?_
    refine lgs F hb37 rfl (x_move (F.t 6 rfl)) fun a F => ?_
    refine lgs F hb37 rfl (x_idxS (xs := (tOf xs)) Tryz.underlying9 (F.t 38 rfl) (F.t 39 rfl) (tOf_byte hb) (by omega) (by omega)) fun a F => ?_
    refine lgs F hb37 rfl (x_gtr (F.t 40 rfl) rfl) fun a F => ?_
    refine la F rfl (x_pickF (F.t 37 rfl) hb37 (F.t 41 rfl)) fun a F => ?_
    refine wn (hK16 _ _ ?_)
    refine wp_cond_split (F.t 42 rfl) (fun hc42 => ?_) (fun hc42 => ?_)
    ·have hk42_5 := hc42; try simp only [bL] at hc42
     have hz := rnum_dig hb (k := k) (by omega) (.inr hc42)
     refine sr fun _ hK18 => ?_
     refine la F rfl (x_assign rfl) fun a F => ?_
     refine la F rfl (x_assign rfl) fun a F => ?_
     refine wn (hK18 _ _ ?_)
     refine wp_ret ?_
     try simp only [Exit.then, Exit.inBlock]
     exact fin_ret F (res2 F rfl rfl rfl) ⟨0, by rw [hz] <;> rfl, H.mods, by decide, fun u hu => by rw [hz] at hu; cases hu⟩
    have hk42_6 := hc42; try simp only [bL] at hc42
    refine wp_skip ?_
    refine hK15 _ _ ?_
    refine wp_region_lit ?_
    refine la F rfl (x_move (F.t 5 rfl)) fun a F => ?_
    refine la F rfl (x_mul rfl (F.t 43 rfl) (wu64 (by have := hq0_1 ; have hvb := valD_bound (ds := tOf xs) (k := k) (by omega) hq0_1; have hp := pow19 (k := k) (by omega); omega) (by have := hq0_1 ; have hvb := valD_bound (ds := tOf xs) (k := k) (by omega) hq0_1; have hp := pow19 (k := k) (by omega); omega))) fun a F => ?_
    refine la F rfl (x_move (F.t 4 rfl)) fun a F => ?_
    refine la F rfl (x_move (F.t 6 rfl)) fun a F => ?_
    refine la F rfl (x_idxS (xs := (tOf xs)) Tryz.underlying9 (F.t 45 rfl) (F.t 46 rfl) (tOf_byte hb) (by omega) (by omega)) fun a F => ?_
    refine la F rfl (x_sub (F.t 47 rfl) rfl (wu8 (by omega) (by omega))) fun a F => ?_
    refine la F rfl (x_conv Tryz.underlying59 ⟨_, Tryz.underlying5⟩ (F.t 48 rfl) (wu64 (by omega) (by omega))) fun a F => ?_
    refine la F rfl (x_add (F.t 44 rfl) (F.t 49 rfl) (wu64 (by have := hq0_1 ; have hvb := valD_bound (ds := tOf xs) (k := k) (by omega) hq0_1; have hp := pow19 (k := k) (by omega); omega) (by have := hq0_1 ; have hvb := valD_bound (ds := tOf xs) (k := k) (by omega) hq0_1; have hp := pow19 (k := k) (by omega); omega))) fun a F => ?_
    refine la F rfl (x_assign (F.t 50 rfl)) fun a F => ?_
    refine wn (hK14 _ _ ?_)
    refine wp_region_lit ?_
    refine la F rfl (x_move (F.t 6 rfl)) fun a F => ?_
    refine la F rfl (x_add (F.t 31 rfl) rfl (w64 (by omega) (by omega))) fun a F => ?_
    refine la F rfl (x_assign (F.t 32 rfl)) fun a F => ?_
    refine wpList_nil ?_
    have hFs : Fr 65 a [(0, .string (strOfNums xs)), (4, .string (strOfNums (tOf xs))), (5, .int .u64 (10 * (valD ((tOf xs).take k)) + ((gi (tOf xs) (k : Int)) - 48))), (6, .int .i64 ((k : Int) + 1))] := ((((F.bare.add F 6 rfl).add F 5 rfl).add F 4 rfl).add F 0 rfl)
    rw [valD_step (by omega)] at hFs
    exact ⟨_, by omega, ⟨k + 1, rfl, by omega, dig_step hq0_1 hc37 hc42, hFs, H.sub _ (sub_nil _)⟩⟩
   have hk30_7 := hc30; try simp only [bL] at hc30
   obtain rfl : k = (tOf xs).length := by omega
   rw [List.take_length] at F
   refine wp_exit ?_
   refine hK10 _ _ ?_
   refine wp_seq_k fun _ hK19 => ?_
   refine sr fun _ hK20 => ?_
   refine la F rfl (x_move (F.t 5 rfl)) fun a F => ?_
   refine la F rfl (x_gtr (F.t 51 rfl) rfl) fun a F => ?_
   refine wn (hK20 _ _ ?_)
   refine wp_cond_split (F.t 52 rfl) (fun hc52 => ?_) (fun hc52 => ?_)
   ·have hk52_8 := hc52; try simp only [bL] at hc52
    have hz := rnum_big hb hc52
    refine sr fun _ hK21 => ?_
    refine la F rfl (x_assign rfl) fun a F => ?_
    refine la F rfl (x_assign rfl) fun a F => ?_
    refine wn (hK21 _ _ ?_)
    refine wp_ret ?_
    try simp only [Exit.then, Exit.inBlock]
    exact fin_ret F (res2 F rfl rfl rfl) ⟨0, by rw [hz] <;> rfl, H.mods, by decide, fun u hu => by rw [hz] at hu; cases hu⟩
   have hk52_9 := hc52; try simp only [bL] at hc52
   refine wp_skip ?_
   refine hK19 _ _ ?_
   refine sr fun _ hK22 => ?_
   refine la F rfl (x_move (F.t 5 rfl)) fun a F => ?_
   refine la F rfl (x_conv Tryz.underlying2 ⟨_, Tryz.underlying59⟩ (F.t 53 rfl) rfl) fun a F => ?_
   refine la F rfl (x_assign (F.t 54 rfl)) fun a F => ?_
   refine wn (hK22 _ _ ?_)
   refine wp_seq_k fun _ hK23 => ?_
   refine sr fun _ hK24 => ?_
   refine la F rfl (x_move (F.t 4 rfl)) fun a F => ?_
   refine la F rfl (x_move (F.t 0 rfl)) fun a F => ?_
   refine la F rfl (x_nen (xs := (tOf xs)) (ys := xs) (F.t 55 rfl) (F.t 56 rfl) (tOf_byte hb) hb) fun a F => ?_
   refine wn (hK24 _ _ ?_)
   refine wp_cond_split (F.t 57 rfl) (fun hc57 => ?_) (fun hc57 => ?_)
   ·have hk57_10 := hc57; try simp only [bL] at hc57
    have hxof := xOf_neg hc57
    refine wp_region_lit ?_
    refine la F rfl (x_move (F.t 7 rfl)) fun a F => ?_
    refine la F rfl (x_neg (F.t 58 rfl) rfl) fun a F => ?_
    refine la F rfl (x_assign (F.t 59 rfl)) fun a F => ?_
    refine wn (hK23 _ _ ?_)
    refine sr fun _ hK25 => ?_
    have F := FrD.add F F 7 (v := .int .i64 (xOf xs)) (by rw [hxof]; rfl)
    refine la F rfl (x_move (F.t 7 rfl)) fun a F => ?_
    refine la F rfl (x_move (F.t 7 rfl)) fun a F => ?_
    refine lp rfl ?_
    refine w_call F (x_enter Tryz.func61 (by kernel_rfl) rfl (by simp only [bM, F.t 61 rfl] <;> rfl)) (text_calls _ (rnum_fin hb).2.2) rfl rfl ?_
    rintro _ w ⟨rfl, hm_⟩; refine ⟨_, rfl, ?_⟩; clear F; intro a F; have H := H.same hm_
    refine la F rfl (x_move (F.t 0 rfl)) fun a F => ?_
    refine la F rfl (x_eqn (xs := (itoaI (xOf xs))) (ys := xs) (F.t 62 rfl) (F.t 63 rfl) (itoaI_byte _) hb) fun a F => ?_
    refine la F rfl (x_assign (F.t 60 rfl)) fun a F => ?_
    refine la F rfl (x_assign (F.t 64 rfl)) fun a F => ?_
    refine wn (hK25 _ _ ?_)
    refine wp_ret ?_
    try simp only [Exit.then, Exit.inBlock]
    have hz := rnum_fin hb
    exact fin_ret F (res2 F rfl rfl rfl) ⟨xOf xs, by rw [hz.1] <;> rfl, H.mods, hz.2.2, hz.2.1⟩
   have hk57_11 := hc57; try simp only [bL] at hc57
   have hxof := xOf_pos hc57
   refine wp_skip ?_
   refine hK23 _ _ ?_
   refine sr fun _ hK26 => ?_
   have F := FrD.add F F 7 (v := .int .i64 (xOf xs)) (by rw [hxof]; rfl)
   refine la F rfl (x_move (F.t 7 rfl)) fun a F => ?_
   refine la F rfl (x_move (F.t 7 rfl)) fun a F => ?_
   refine lp rfl ?_
   refine w_call F (x_enter Tryz.func61 (by kernel_rfl) rfl (by simp only [bM, F.t 61 rfl] <;> rfl)) (text_calls _ (rnum_fin hb).2.2) rfl rfl ?_
   rintro _ w ⟨rfl, hm_⟩; refine ⟨_, rfl, ?_⟩; clear F; intro a F; have H := H.same hm_
   refine la F rfl (x_move (F.t 0 rfl)) fun a F => ?_
   refine la F rfl (x_eqn (xs := (itoaI (xOf xs))) (ys := xs) (F.t 62 rfl) (F.t 63 rfl) (itoaI_byte _) hb) fun a F => ?_
   refine la F rfl (x_assign (F.t 60 rfl)) fun a F => ?_
   refine la F rfl (x_assign (F.t 64 rfl)) fun a F => ?_
   refine wn (hK26 _ _ ?_)
   refine wp_ret ?_
   try simp only [Exit.then, Exit.inBlock]
   have hz := rnum_fin hb
   exact fin_ret F (res2 F rfl rfl rfl) ⟨xOf xs, by rw [hz.1] <;> rfl, H.mods, hz.2.2, hz.2.1⟩
  have hk16_12 := hc16; try simp only [bL] at hc16
  have htof := tOf_no hc16
  refine wp_skip ?_
  refine hK3 _ _ ?_
  refine wp_seq_k fun _ hK27 => ?_
  refine sr fun _ hK28 => ?_
  have F := FrD.add F F 4 (v := .string (strOfNums (tOf xs))) (by rw [htof]; rfl)
  refine la F rfl (x_move (F.t 4 rfl)) fun a F => ?_
  refine la F rfl (x_len_sn (xs := (tOf xs)) Tryz.underlying9 (F.t 19 rfl)) fun a F => ?_
  refine la F rfl (x_lss (F.t 20 rfl) rfl) fun a F => ?_
  refine la F rfl (x_move (F.t 21 rfl)) fun a F => ?_
  refine split_bool F 22 rfl (fun hb22 => ?_) (fun hb22 => ?_)
  ·have hc22 := hb22; try simp only [bL] at hc22
   have hz := rnum_len hb (.inl (by omega))
   refine los F hb22 rfl fun a F => ?_
   refine los F hb22 rfl fun a F => ?_
   refine los F hb22 rfl fun a F => ?_
   refine la F rfl (x_pickT (F.t 22 rfl) hb22 rfl) fun a F => ?_
   refine wn (hK28 _ _ ?_)
   refine wp_cond_true (F.t 26 rfl) ?_
   refine sr fun _ hK29 => ?_
   refine la F rfl (x_assign rfl) fun a F => ?_
   refine la F rfl (x_assign rfl) fun a F => ?_
   refine wn (hK29 _ _ ?_)
   refine wp_ret ?_
   try simp only [Exit.then, Exit.inBlock]
   exact fin_ret F (res2 F rfl rfl rfl) ⟨0, by rw [hz] <;> rfl, H.mods, by decide, fun u hu => by rw [hz] at hu; cases hu⟩
  have hc22 := hb22; try simp only [bL] at hc22
  refine lgs F hb22 rfl (x_move (F.t 4 rfl)) fun a F => ?_
  refine lgs F hb22 rfl (x_len_sn (xs := (tOf xs)) Tryz.underlying9 (F.t 23 rfl)) fun a F => ?_
  refine lgs F hb22 rfl (x_gtr (F.t 24 rfl) rfl) fun a F => ?_
  refine la F rfl (x_pickF (F.t 22 rfl) hb22 (F.t 25 rfl)) fun a F => ?_
  refine wn (hK28 _ _ ?_)
  refine wp_cond_split (F.t 26 rfl) (fun hc26 => ?_) (fun hc26 => ?_)
  ·have hk26_13 := hc26; try simp only [bL] at hc26
   have hz := rnum_len hb (.inr (by omega))
   refine sr fun _ hK30 => ?_
   refine la F rfl (x_assign rfl) fun a F => ?_
   refine la F rfl (x_assign rfl) fun a F => ?_
   refine wn (hK30 _ _ ?_)
   refine wp_ret ?_
   try simp only [Exit.then, Exit.inBlock]
   exact fin_ret F (res2 F rfl rfl rfl) ⟨0, by rw [hz] <;> rfl, H.mods, by decide, fun u hu => by rw [hz] at hu; cases hu⟩
  have hk26_14 := hc26; try simp only [bL] at hc26
  refine wp_skip ?_
  refine hK27 _ _ ?_
  refine sr fun _ hK31 => ?_
  refine la F rfl (x_assign rfl) fun a F => ?_
  refine wn (hK31 _ _ ?_)
  refine wp_seq_k fun _ hK32 => ?_
  refine sr fun _ hK33 => ?_
  refine la F rfl (x_assign rfl) fun a F => ?_
  refine wn (hK33 _ _ ?_)
  refine wp_block ?_
  refine wp_loop_ghost (fun n_ a w => ∃ k : Nat, n_ = (tOf xs).length - k ∧ (k ≤ (tOf xs).length) ∧ (∀ j, j < k → 48 ≤ gi (tOf xs) (j : Int) ∧ gi (tOf xs) (j : Int) ≤ 57) ∧ Fr 65 a [(0, .string (strOfNums xs)), (4, .string (strOfNums (tOf xs))), (5, .int .u64 (valD ((tOf xs).take k))), (6, .int .i64 (k : Int))] ∧ Hp (fun _ => False) w0 w []) ((tOf xs).length) ?_ ?_
  ·exact ⟨0, rfl, by omega, fun j hj => by omega, ((((F.bare.add F 6 rfl).add F 5 rfl).add F 4 rfl).add F 0 rfl), H.sub _ (sub_nil _)⟩
  rintro _ a w ⟨k, rfl, hq0_0, hq0_1, F, H⟩
  refine wp_seq_k fun _ hK34 => ?_
  refine sr fun _ hK35 => ?_
  refine la F rfl (x_move (F.t 6 rfl)) fun a F => ?_
  refine la F rfl (x_move (F.t 4 rfl)) fun a F => ?_
  refine la F rfl (x_len_sn (xs := (tOf xs)) Tryz.underlying9 (F.t 28 rfl)) fun a F => ?_
  refine la F rfl (x_lss (F.t 27 rfl) (F.t 29 rfl)) fun a F => ?_
  refine wn (hK35 _ _ ?_)
  refine wp_cond_split (F.t 30 rfl) (fun hc30 => ?_) (fun hc30 => ?_)
  ·have hk30_15 := hc30; try simp only [bL] at hc30
   refine wp_skip ?_
   refine hK34 _ _ ?_
   refine wp_seq_k fun _ hK36 => ?_
   refine wp_block ?_
   refine wp_seq_k fun _ hK37 => ?_
   refine sr fun _ hK38 => ?_
   refine la F rfl (x_move (F.t 4 rfl)) fun a F => ?_
   refine la F rfl (x_move (F.t 6 rfl)) fun a F => ?_
   refine la F rfl (x_idxS (xs := (tOf xs)) Tryz.underlying9 (F.t 33 rfl) (F.t 34 rfl) (tOf_byte hb) (by omega) (by omega)) fun a F => ?_
   refine la F rfl (x_lss (F.t 35 rfl) rfl) fun a F => ?_
   refine la F rfl (x_move (F.t 36 rfl)) fun a F => ?_
   refine split_bool F 37 rfl (fun hb37 => ?_) (fun hb37 => ?_)
   ·have hc37 := hb37; try simp only [bL] at hc37
    have hz := rnum_dig hb (k := k) (by omega) (.inl hc37)
    refine los F hb37 rfl fun a F => ?_
    refine los F hb37 rfl fun a F => ?_
    refine los F hb37 rfl fun a F => ?_
    refine los F hb37 rfl fun a F => ?_
    refine la F rfl (x_pickT (F.t 37 rfl) hb37 rfl) fun a F => ?_
    refine wn (hK38 _ _ ?_)
    refine wp_cond_true (F.t 42 rfl) ?_
    refine sr fun _ hK39 => ?_
    refine la F rfl (x_assign rfl) fun a F => ?_
    refine la F rfl (x_assign rfl) fun a F => ?_
    refine wn (hK39 _ _ ?_)
    refine wp_ret ?_
    try simp only [Exit.then, Exit.inBlock]
    exact fin_ret F (res2 F rfl rfl rfl) ⟨0, by rw [hz] <;> rfl, H.mods, by decide, fun u hu => by rw [hz] at hu; cases hu⟩
   have hc37 := hb37; try simp only [bL] at hc37
   refine lgs F hb37 rfl (x_move (F.t 4 rfl)) fun a F => ?_
   refine lgs F hb37 rfl (x_move (F.t 6 rfl)) fun a F => ?_
   refine lgs F hb37 rfl (x_idxS (xs := (tOf xs)) Tryz.underlying9 (F.t 38 rfl) (F.t 39 rfl) (tOf_byte hb) (by omega) (by omega)) fun a F => ?_
   refine lgs F hb37 rfl (x_gtr (F.t 40 rfl) rfl) fun a F => ?_
   refine la F rfl (x_pickF (F.t 37 rfl) hb37 (F.t 41 rfl)) fun a F => ?_
   refine wn (hK38 _ _ ?_)
   refine wp_cond_split (F.t 42 rfl) (fun hc42 => ?_) (fun hc42 => ?_)
   ·have hk42_16 := hc42; try simp only [bL] at hc42
    have hz := rnum_dig hb (k := k) (by omega) (.inr hc42)
    refine sr fun _ hK40 => ?_
    refine la F rfl (x_assign rfl) fun a F => ?_
    refine la F rfl (x_assign rfl) fun a F => ?_
    refine wn (hK40 _ _ ?_)
    refine wp_ret ?_
    try simp only [Exit.then, Exit.inBlock]
    exact fin_ret F (res2 F rfl rfl rfl) ⟨0, by rw [hz] <;> rfl, H.mods, by decide, fun u hu => by rw [hz] at hu; cases hu⟩
   have hk42_17 := hc42; try simp only [bL] at hc42
   refine wp_skip ?_
   refine hK37 _ _ ?_
   refine wp_region_lit ?_
   refine la F rfl (x_move (F.t 5 rfl)) fun a F => ?_
   refine la F rfl (x_mul rfl (F.t 43 rfl) (wu64 (by have := hq0_1 ; have hvb := valD_bound (ds := tOf xs) (k := k) (by omega) hq0_1; have hp := pow19 (k := k) (by omega); omega) (by have := hq0_1 ; have hvb := valD_bound (ds := tOf xs) (k := k) (by omega) hq0_1; have hp := pow19 (k := k) (by omega); omega))) fun a F => ?_
   refine la F rfl (x_move (F.t 4 rfl)) fun a F => ?_
   refine la F rfl (x_move (F.t 6 rfl)) fun a F => ?_
   refine la F rfl (x_idxS (xs := (tOf xs)) Tryz.underlying9 (F.t 45 rfl) (F.t 46 rfl) (tOf_byte hb) (by omega) (by omega)) fun a F => ?_
   refine la F rfl (x_sub (F.t 47 rfl) rfl (wu8 (by omega) (by omega))) fun a F => ?_
   refine la F rfl (x_conv Tryz.underlying59 ⟨_, Tryz.underlying5⟩ (F.t 48 rfl) (wu64 (by omega) (by omega))) fun a F => ?_
   refine la F rfl (x_add (F.t 44 rfl) (F.t 49 rfl) (wu64 (by have := hq0_1 ; have hvb := valD_bound (ds := tOf xs) (k := k) (by omega) hq0_1; have hp := pow19 (k := k) (by omega); omega) (by have := hq0_1 ; have hvb := valD_bound (ds := tOf xs) (k := k) (by omega) hq0_1; have hp := pow19 (k := k) (by omega); omega))) fun a F => ?_
   refine la F rfl (x_assign (F.t 50 rfl)) fun a F => ?_
   refine wn (hK36 _ _ ?_)
   refine wp_region_lit ?_
   refine la F rfl (x_move (F.t 6 rfl)) fun a F => ?_
   refine la F rfl (x_add (F.t 31 rfl) rfl (w64 (by omega) (by omega))) fun a F => ?_
   refine la F rfl (x_assign (F.t 32 rfl)) fun a F => ?_
   refine wpList_nil ?_
   have hFs : Fr 65 a [(0, .string (strOfNums xs)), (4, .string (strOfNums (tOf xs))), (5, .int .u64 (10 * (valD ((tOf xs).take k)) + ((gi (tOf xs) (k : Int)) - 48))), (6, .int .i64 ((k : Int) + 1))] := ((((F.bare.add F 6 rfl).add F 5 rfl).add F 4 rfl).add F 0 rfl)
   rw [valD_step (by omega)] at hFs
   exact ⟨_, by omega, ⟨k + 1, rfl, by omega, dig_step hq0_1 hc37 hc42, hFs, H.sub _ (sub_nil _)⟩⟩
  have hk30_18 := hc30; try simp only [bL] at hc30
  obtain rfl : k = (tOf xs).length := by omega
  rw [List.take_length] at F
  refine wp_exit ?_
  refine hK32 _ _ ?_
  refine wp_seq_k fun _ hK41 => ?_
  refine sr fun _ hK42 => ?_
  refine la F rfl (x_move (F.t 5 rfl)) fun a F => ?_
  refine la F rfl (x_gtr (F.t 51 rfl) rfl) fun a F => ?_
  refine wn (hK42 _ _ ?_)
  refine wp_cond_split (F.t 52 rfl) (fun hc52 => ?_) (fun hc52 => ?_)
  ·have hk52_19 := hc52; try simp only [bL] at hc52
   have hz := rnum_big hb hc52
   refine sr fun _ hK43 => ?_
   refine la F rfl (x_assign rfl) fun a F => ?_
   refine la F rfl (x_assign rfl) fun a F => ?_
   refine wn (hK43 _ _ ?_)
   refine wp_ret ?_
   try simp only [Exit.then, Exit.inBlock]
   exact fin_ret F (res2 F rfl rfl rfl) ⟨0, by rw [hz] <;> rfl, H.mods, by decide, fun u hu => by rw [hz] at hu; cases hu⟩
  have hk52_20 := hc52; try simp only [bL] at hc52
  refine wp_skip ?_
  refine hK41 _ _ ?_
  refine sr fun _ hK44 => ?_
  refine la F rfl (x_move (F.t 5 rfl)) fun a F => ?_
  refine la F rfl (x_conv Tryz.underlying2 ⟨_, Tryz.underlying59⟩ (F.t 53 rfl) rfl) fun a F => ?_
  refine la F rfl (x_assign (F.t 54 rfl)) fun a F => ?_
  refine wn (hK44 _ _ ?_)
  refine wp_seq_k fun _ hK45 => ?_
  refine sr fun _ hK46 => ?_
  refine la F rfl (x_move (F.t 4 rfl)) fun a F => ?_
  refine la F rfl (x_move (F.t 0 rfl)) fun a F => ?_
  refine la F rfl (x_nen (xs := (tOf xs)) (ys := xs) (F.t 55 rfl) (F.t 56 rfl) (tOf_byte hb) hb) fun a F => ?_
  refine wn (hK46 _ _ ?_)
  refine wp_cond_split (F.t 57 rfl) (fun hc57 => ?_) (fun hc57 => ?_)
  ·have hk57_21 := hc57; try simp only [bL] at hc57
   have hxof := xOf_neg hc57
   refine wp_region_lit ?_
   refine la F rfl (x_move (F.t 7 rfl)) fun a F => ?_
   refine la F rfl (x_neg (F.t 58 rfl) rfl) fun a F => ?_
   refine la F rfl (x_assign (F.t 59 rfl)) fun a F => ?_
   refine wn (hK45 _ _ ?_)
   refine sr fun _ hK47 => ?_
   have F := FrD.add F F 7 (v := .int .i64 (xOf xs)) (by rw [hxof]; rfl)
   refine la F rfl (x_move (F.t 7 rfl)) fun a F => ?_
   refine la F rfl (x_move (F.t 7 rfl)) fun a F => ?_
   refine lp rfl ?_
   refine w_call F (x_enter Tryz.func61 (by kernel_rfl) rfl (by simp only [bM, F.t 61 rfl] <;> rfl)) (text_calls _ (rnum_fin hb).2.2) rfl rfl ?_
   rintro _ w ⟨rfl, hm_⟩; refine ⟨_, rfl, ?_⟩; clear F; intro a F; have H := H.same hm_
   refine la F rfl (x_move (F.t 0 rfl)) fun a F => ?_
   refine la F rfl (x_eqn (xs := (itoaI (xOf xs))) (ys := xs) (F.t 62 rfl) (F.t 63 rfl) (itoaI_byte _) hb) fun a F => ?_
   refine la F rfl (x_assign (F.t 60 rfl)) fun a F => ?_
   refine la F rfl (x_assign (F.t 64 rfl)) fun a F => ?_
   refine wn (hK47 _ _ ?_)
   refine wp_ret ?_
   try simp only [Exit.then, Exit.inBlock]
   have hz := rnum_fin hb
   exact fin_ret F (res2 F rfl rfl rfl) ⟨xOf xs, by rw [hz.1] <;> rfl, H.mods, hz.2.2, hz.2.1⟩
  have hk57_22 := hc57; try simp only [bL] at hc57
  have hxof := xOf_pos hc57
  refine wp_skip ?_
  refine hK45 _ _ ?_
  refine sr fun _ hK48 => ?_
  have F := FrD.add F F 7 (v := .int .i64 (xOf xs)) (by rw [hxof]; rfl)
  refine la F rfl (x_move (F.t 7 rfl)) fun a F => ?_
  refine la F rfl (x_move (F.t 7 rfl)) fun a F => ?_
  refine lp rfl ?_
  refine w_call F (x_enter Tryz.func61 (by kernel_rfl) rfl (by simp only [bM, F.t 61 rfl] <;> rfl)) (text_calls _ (rnum_fin hb).2.2) rfl rfl ?_
  rintro _ w ⟨rfl, hm_⟩; refine ⟨_, rfl, ?_⟩; clear F; intro a F; have H := H.same hm_
  refine la F rfl (x_move (F.t 0 rfl)) fun a F => ?_
  refine la F rfl (x_eqn (xs := (itoaI (xOf xs))) (ys := xs) (F.t 62 rfl) (F.t 63 rfl) (itoaI_byte _) hb) fun a F => ?_
  refine la F rfl (x_assign (F.t 60 rfl)) fun a F => ?_
  refine la F rfl (x_assign (F.t 64 rfl)) fun a F => ?_
  refine wn (hK48 _ _ ?_)
  refine wp_ret ?_
  try simp only [Exit.then, Exit.inBlock]
  have hz := rnum_fin hb
  exact fin_ret F (res2 F rfl rfl rfl) ⟨xOf xs, by rw [hz.1] <;> rfl, H.mods, hz.2.2, hz.2.1⟩
 have hc12 := hb12; try simp only [bL] at hc12
 have htof := tOf_0 (xs := xs) (by omega)
 refine los F hb12 rfl fun a F => ?_
 refine los F hb12 rfl fun a F => ?_
 refine los F hb12 rfl fun a F => ?_
 refine la F rfl (x_pickF (F.t 12 rfl) hb12 rfl) fun a F => ?_
 refine wn (hK4 _ _ ?_)
 refine wp_cond_false (F.t 16 rfl) ?_
 refine wp_skip ?_
 refine hK3 _ _ ?_
 refine wp_seq_k fun _ hK49 => ?_
 refine sr fun _ hK50 => ?_
 have F := FrD.add F F 4 (v := .string (strOfNums (tOf xs))) (by rw [htof]; rfl)
 refine la F rfl (x_move (F.t 4 rfl)) fun a F => ?_
 refine la F rfl (x_len_sn (xs := (tOf xs)) Tryz.underlying9 (F.t 19 rfl)) fun a F => ?_
 refine la F rfl (x_lss (F.t 20 rfl) rfl) fun a F => ?_
 refine la F rfl (x_move (F.t 21 rfl)) fun a F => ?_
 refine split_bool F 22 rfl (fun hb22 => ?_) (fun hb22 => ?_)
 ·have hc22 := hb22; try simp only [bL] at hc22
  have hz := rnum_len hb (.inl (by omega))
  refine los F hb22 rfl fun a F => ?_
  refine los F hb22 rfl fun a F => ?_
  refine los F hb22 rfl fun a F => ?_
  refine la F rfl (x_pickT (F.t 22 rfl) hb22 rfl) fun a F => ?_
  refine wn (hK50 _ _ ?_)
  refine wp_cond_true (F.t 26 rfl) ?_
  refine sr fun _ hK51 => ?_
  refine la F rfl (x_assign rfl) fun a F => ?_
  refine la F rfl (x_assign rfl) fun a F => ?_
  refine wn (hK51 _ _ ?_)
  refine wp_ret ?_
  try simp only [Exit.then, Exit.inBlock]
  exact fin_ret F (res2 F rfl rfl rfl) ⟨0, by rw [hz] <;> rfl, H.mods, by decide, fun u hu => by rw [hz] at hu; cases hu⟩
 have hc22 := hb22; try simp only [bL] at hc22
 refine lgs F hb22 rfl (x_move (F.t 4 rfl)) fun a F => ?_
 refine lgs F hb22 rfl (x_len_sn (xs := (tOf xs)) Tryz.underlying9 (F.t 23 rfl)) fun a F => ?_
 refine lgs F hb22 rfl (x_gtr (F.t 24 rfl) rfl) fun a F => ?_
 refine la F rfl (x_pickF (F.t 22 rfl) hb22 (F.t 25 rfl)) fun a F => ?_
 refine wn (hK50 _ _ ?_)
 refine wp_cond_split (F.t 26 rfl) (fun hc26 => ?_) (fun hc26 => ?_)
 ·have hk26_23 := hc26; try simp only [bL] at hc26
  have hz := rnum_len hb (.inr (by omega))
  refine sr fun _ hK52 => ?_
  refine la F rfl (x_assign rfl) fun a F => ?_
  refine la F rfl (x_assign rfl) fun a F => ?_
  refine wn (hK52 _ _ ?_)
  refine wp_ret ?_
  try simp only [Exit.then, Exit.inBlock]
  exact fin_ret F (res2 F rfl rfl rfl) ⟨0, by rw [hz] <;> rfl, H.mods, by decide, fun u hu => by rw [hz] at hu; cases hu⟩
 have hk26_24 := hc26; try simp only [bL] at hc26
 refine wp_skip ?_
 refine hK49 _ _ ?_
 refine sr fun _ hK53 => ?_
 refine la F rfl (x_assign rfl) fun a F => ?_
 refine wn (hK53 _ _ ?_)
 refine wp_seq_k fun _ hK54 => ?_
 refine sr fun _ hK55 => ?_
 refine la F rfl (x_assign rfl) fun a F => ?_
 refine wn (hK55 _ _ ?_)
 refine wp_block ?_
 refine wp_loop_ghost (fun n_ a w => ∃ k : Nat, n_ = (tOf xs).length - k ∧ (k ≤ (tOf xs).length) ∧ (∀ j, j < k → 48 ≤ gi (tOf xs) (j : Int) ∧ gi (tOf xs) (j : Int) ≤ 57) ∧ Fr 65 a [(0, .string (strOfNums xs)), (4, .string (strOfNums (tOf xs))), (5, .int .u64 (valD ((tOf xs).take k))), (6, .int .i64 (k : Int))] ∧ Hp (fun _ => False) w0 w []) ((tOf xs).length) ?_ ?_
 ·exact ⟨0, rfl, by omega, fun j hj => by omega, ((((F.bare.add F 6 rfl).add F 5 rfl).add F 4 rfl).add F 0 rfl), H.sub _ (sub_nil _)⟩
 rintro _ a w ⟨k, rfl, hq0_0, hq0_1, F, H⟩
 refine wp_seq_k fun _ hK56 => ?_
 refine sr fun _ hK57 => ?_
 refine la F rfl (x_move (F.t 6 rfl)) fun a F => ?_
 refine la F rfl (x_move (F.t 4 rfl)) fun a F => ?_
 refine la F rfl (x_len_sn (xs := (tOf xs)) Tryz.underlying9 (F.t 28 rfl)) fun a F => ?_
 refine la F rfl (x_lss (F.t 27 rfl) (F.t 29 rfl)) fun a F => ?_
 refine wn (hK57 _ _ ?_)
 refine wp_cond_split (F.t 30 rfl) (fun hc30 => ?_) (fun hc30 => ?_)
 ·have hk30_25 := hc30; try simp only [bL] at hc30
  refine wp_skip ?_
  refine hK56 _ _ ?_
  refine wp_seq_k fun _ hK58 => ?_
  refine wp_block ?_
  refine wp_seq_k fun _ hK59 => ?_
  refine sr fun _ hK60 => ?_
  refine la F rfl (x_move (F.t 4 rfl)) fun a F => ?_
  refine la F rfl (x_move (F.t 6 rfl)) fun a F => ?_
  refine la F rfl (x_idxS (xs := (tOf xs)) Tryz.underlying9 (F.t 33 rfl) (F.t 34 rfl) (tOf_byte hb) (by omega) (by omega)) fun a F => ?_
  refine la F rfl (x_lss (F.t 35 rfl) rfl) fun a F => ?_
  refine la F rfl (x_move (F.t 36 rfl)) fun a F => ?_
  refine split_bool F 37 rfl (fun hb37 => ?_) (fun hb37 => ?_)
  ·have hc37 := hb37; try simp only [bL] at hc37
   have hz := rnum_dig hb (k := k) (by omega) (.inl hc37)
   refine los F hb37 rfl fun a F => ?_
   refine los F hb37 rfl fun a F => ?_
   refine los F hb37 rfl fun a F => ?_
   refine los F hb37 rfl fun a F => ?_
   refine la F rfl (x_pickT (F.t 37 rfl) hb37 rfl) fun a F => ?_
   refine wn (hK60 _ _ ?_)
   refine wp_cond_true (F.t 42 rfl) ?_
   refine sr fun _ hK61 => ?_
   refine la F rfl (x_assign rfl) fun a F => ?_
   refine la F rfl (x_assign rfl) fun a F => ?_
   refine wn (hK61 _ _ ?_)
   refine wp_ret ?_
   try simp only [Exit.then, Exit.inBlock]
   exact fin_ret F (res2 F rfl rfl rfl) ⟨0, by rw [hz] <;> rfl, H.mods, by decide, fun u hu => by rw [hz] at hu; cases hu⟩
  have hc37 := hb37; try simp only [bL] at hc37
  refine lgs F hb37 rfl (x_move (F.t 4 rfl)) fun a F => ?_
  refine lgs F hb37 rfl (x_move (F.t 6 rfl)) fun a F => ?_
  refine lgs F hb37 rfl (x_idxS (xs := (tOf xs)) Tryz.underlying9 (F.t 38 rfl) (F.t 39 rfl) (tOf_byte hb) (by omega) (by omega)) fun a F => ?_
  refine lgs F hb37 rfl (x_gtr (F.t 40 rfl) rfl) fun a F => ?_
  refine la F rfl (x_pickF (F.t 37 rfl) hb37 (F.t 41 rfl)) fun a F => ?_
  refine wn (hK60 _ _ ?_)
  refine wp_cond_split (F.t 42 rfl) (fun hc42 => ?_) (fun hc42 => ?_)
  ·have hk42_26 := hc42; try simp only [bL] at hc42
   have hz := rnum_dig hb (k := k) (by omega) (.inr hc42)
   refine sr fun _ hK62 => ?_
   refine la F rfl (x_assign rfl) fun a F => ?_
   refine la F rfl (x_assign rfl) fun a F => ?_
   refine wn (hK62 _ _ ?_)
   refine wp_ret ?_
   try simp only [Exit.then, Exit.inBlock]
   exact fin_ret F (res2 F rfl rfl rfl) ⟨0, by rw [hz] <;> rfl, H.mods, by decide, fun u hu => by rw [hz] at hu; cases hu⟩
  have hk42_27 := hc42; try simp only [bL] at hc42
  refine wp_skip ?_
  refine hK59 _ _ ?_
  refine wp_region_lit ?_
  refine la F rfl (x_move (F.t 5 rfl)) fun a F => ?_
  refine la F rfl (x_mul rfl (F.t 43 rfl) (wu64 (by have := hq0_1 ; have hvb := valD_bound (ds := tOf xs) (k := k) (by omega) hq0_1; have hp := pow19 (k := k) (by omega); omega) (by have := hq0_1 ; have hvb := valD_bound (ds := tOf xs) (k := k) (by omega) hq0_1; have hp := pow19 (k := k) (by omega); omega))) fun a F => ?_
  refine la F rfl (x_move (F.t 4 rfl)) fun a F => ?_
  refine la F rfl (x_move (F.t 6 rfl)) fun a F => ?_
  refine la F rfl (x_idxS (xs := (tOf xs)) Tryz.underlying9 (F.t 45 rfl) (F.t 46 rfl) (tOf_byte hb) (by omega) (by omega)) fun a F => ?_
  refine la F rfl (x_sub (F.t 47 rfl) rfl (wu8 (by omega) (by omega))) fun a F => ?_
  refine la F rfl (x_conv Tryz.underlying59 ⟨_, Tryz.underlying5⟩ (F.t 48 rfl) (wu64 (by omega) (by omega))) fun a F => ?_
  refine la F rfl (x_add (F.t 44 rfl) (F.t 49 rfl) (wu64 (by have := hq0_1 ; have hvb := valD_bound (ds := tOf xs) (k := k) (by omega) hq0_1; have hp := pow19 (k := k) (by omega); omega) (by have := hq0_1 ; have hvb := valD_bound (ds := tOf xs) (k := k) (by omega) hq0_1; have hp := pow19 (k := k) (by omega); omega))) fun a F => ?_
  refine la F rfl (x_assign (F.t 50 rfl)) fun a F => ?_
  refine wn (hK58 _ _ ?_)
  refine wp_region_lit ?_
  refine la F rfl (x_move (F.t 6 rfl)) fun a F => ?_
  refine la F rfl (x_add (F.t 31 rfl) rfl (w64 (by omega) (by omega))) fun a F => ?_
  refine la F rfl (x_assign (F.t 32 rfl)) fun a F => ?_
  refine wpList_nil ?_
  have hFs : Fr 65 a [(0, .string (strOfNums xs)), (4, .string (strOfNums (tOf xs))), (5, .int .u64 (10 * (valD ((tOf xs).take k)) + ((gi (tOf xs) (k : Int)) - 48))), (6, .int .i64 ((k : Int) + 1))] := ((((F.bare.add F 6 rfl).add F 5 rfl).add F 4 rfl).add F 0 rfl)
  rw [valD_step (by omega)] at hFs
  exact ⟨_, by omega, ⟨k + 1, rfl, by omega, dig_step hq0_1 hc37 hc42, hFs, H.sub _ (sub_nil _)⟩⟩
 have hk30_28 := hc30; try simp only [bL] at hc30
 obtain rfl : k = (tOf xs).length := by omega
 rw [List.take_length] at F
 refine wp_exit ?_
 refine hK54 _ _ ?_
 refine wp_seq_k fun _ hK63 => ?_
 refine sr fun _ hK64 => ?_
 refine la F rfl (x_move (F.t 5 rfl)) fun a F => ?_
 refine la F rfl (x_gtr (F.t 51 rfl) rfl) fun a F => ?_
 refine wn (hK64 _ _ ?_)
 refine wp_cond_split (F.t 52 rfl) (fun hc52 => ?_) (fun hc52 => ?_)
 ·have hk52_29 := hc52; try simp only [bL] at hc52
  have hz := rnum_big hb hc52
  refine sr fun _ hK65 => ?_
  refine la F rfl (x_assign rfl) fun a F => ?_
  refine la F rfl (x_assign rfl) fun a F => ?_
  refine wn (hK65 _ _ ?_)
  refine wp_ret ?_
  try simp only [Exit.then, Exit.inBlock]
  exact fin_ret F (res2 F rfl rfl rfl) ⟨0, by rw [hz] <;> rfl, H.mods, by decide, fun u hu => by rw [hz] at hu; cases hu⟩
 have hk52_30 := hc52; try simp only [bL] at hc52
 refine wp_skip ?_
 refine hK63 _ _ ?_
 refine sr fun _ hK66 => ?_
 refine la F rfl (x_move (F.t 5 rfl)) fun a F => ?_
 refine la F rfl (x_conv Tryz.underlying2 ⟨_, Tryz.underlying59⟩ (F.t 53 rfl) rfl) fun a F => ?_
 refine la F rfl (x_assign (F.t 54 rfl)) fun a F => ?_
 refine wn (hK66 _ _ ?_)
 refine wp_seq_k fun _ hK67 => ?_
 refine sr fun _ hK68 => ?_
 refine la F rfl (x_move (F.t 4 rfl)) fun a F => ?_
 refine la F rfl (x_move (F.t 0 rfl)) fun a F => ?_
 refine la F rfl (x_nen (xs := (tOf xs)) (ys := xs) (F.t 55 rfl) (F.t 56 rfl) (tOf_byte hb) hb) fun a F => ?_
 refine wn (hK68 _ _ ?_)
 refine wp_cond_split (F.t 57 rfl) (fun hc57 => ?_) (fun hc57 => ?_)
 ·have hk57_31 := hc57; try simp only [bL] at hc57
  have hxof := xOf_neg hc57
  refine wp_region_lit ?_
  refine la F rfl (x_move (F.t 7 rfl)) fun a F => ?_
  refine la F rfl (x_neg (F.t 58 rfl) rfl) fun a F => ?_
  refine la F rfl (x_assign (F.t 59 rfl)) fun a F => ?_
  refine wn (hK67 _ _ ?_)
  refine sr fun _ hK69 => ?_
  have F := FrD.add F F 7 (v := .int .i64 (xOf xs)) (by rw [hxof]; rfl)
  refine la F rfl (x_move (F.t 7 rfl)) fun a F => ?_
  refine la F rfl (x_move (F.t 7 rfl)) fun a F => ?_
  refine lp rfl ?_
  refine w_call F (x_enter Tryz.func61 (by kernel_rfl) rfl (by simp only [bM, F.t 61 rfl] <;> rfl)) (text_calls _ (rnum_fin hb).2.2) rfl rfl ?_
  rintro _ w ⟨rfl, hm_⟩; refine ⟨_, rfl, ?_⟩; clear F; intro a F; have H := H.same hm_
  refine la F rfl (x_move (F.t 0 rfl)) fun a F => ?_
  refine la F rfl (x_eqn (xs := (itoaI (xOf xs))) (ys := xs) (F.t 62 rfl) (F.t 63 rfl) (itoaI_byte _) hb) fun a F => ?_
  refine la F rfl (x_assign (F.t 60 rfl)) fun a F => ?_
  refine la F rfl (x_assign (F.t 64 rfl)) fun a F => ?_
  refine wn (hK69 _ _ ?_)
  refine wp_ret ?_
  try simp only [Exit.then, Exit.inBlock]
  have hz := rnum_fin hb
  exact fin_ret F (res2 F rfl rfl rfl) ⟨xOf xs, by rw [hz.1] <;> rfl, H.mods, hz.2.2, hz.2.1⟩
 have hk57_32 := hc57; try simp only [bL] at hc57
 have hxof := xOf_pos hc57
 refine wp_skip ?_
 refine hK67 _ _ ?_
 refine sr fun _ hK70 => ?_
 have F := FrD.add F F 7 (v := .int .i64 (xOf xs)) (by rw [hxof]; rfl)
 refine la F rfl (x_move (F.t 7 rfl)) fun a F => ?_
 refine la F rfl (x_move (F.t 7 rfl)) fun a F => ?_
 refine lp rfl ?_
 refine w_call F (x_enter Tryz.func61 (by kernel_rfl) rfl (by simp only [bM, F.t 61 rfl] <;> rfl)) (text_calls _ (rnum_fin hb).2.2) rfl rfl ?_
 rintro _ w ⟨rfl, hm_⟩; refine ⟨_, rfl, ?_⟩; clear F; intro a F; have H := H.same hm_
 refine la F rfl (x_move (F.t 0 rfl)) fun a F => ?_
 refine la F rfl (x_eqn (xs := (itoaI (xOf xs))) (ys := xs) (F.t 62 rfl) (F.t 63 rfl) (itoaI_byte _) hb) fun a F => ?_
 refine la F rfl (x_assign (F.t 60 rfl)) fun a F => ?_
 refine la F rfl (x_assign (F.t 64 rfl)) fun a F => ?_
 refine wn (hK70 _ _ ?_)
 refine wp_ret ?_
 try simp only [Exit.then, Exit.inBlock]
 have hz := rnum_fin hb
 exact fin_ret F (res2 F rfl rfl rfl) ⟨xOf xs, by rw [hz.1] <;> rfl, H.mods, hz.2.2, hz.2.1⟩
theorem radec_calls (w0 : World) {ok : Nat → Prop} {A : Option Addr} {bs : List Int} {c : Nat} (hrb : Rd (.int .u8) w0 ok A bs c) (hby : Byte bs) : Calls Tryz.prog 77 #[.slice A bs.length c] w0 fun e w' => ∃ v, e = .returned (.tuple #[v, .int .i64 (if (adecR bs).isSome then 0 else 12)]) ∧ Mods (fun _ => False) w0 w' ∧ RowOut StE 91 w0 w' v ((adecR bs).getD []) := by
 refine cow Tryz.func77 rfl Tryz.ntmps77 (Nat.le_of_ble_eq_true rfl) fun a F => ?_
 have H := Hp.nil (fun _ => False) w0
 have H := H.arg 901 hrb.all (fun _ h => ⟨h, fun h => h⟩)
 have hleb := hrb.le; unfold maxLen at hleb
 refine sr fun _ hK1 => ?_
 refine la F rfl (x_assign rfl) fun a F => ?_
 refine la F rfl (x_assign rfl) fun a F => ?_
 refine wn (hK1 _ _ ?_)
 refine sr fun _ hK2 => ?_
 refine la F rfl (x_move (F.t 0 rfl)) fun a F => ?_
 refine lp rfl ?_
 refine w_call F (x_enter Tryz.func41 (by kernel_rfl) rfl (by simp only [bM, F.t 16 rfl] <;> rfl)) (refDec_calls _ ((H.rd 901 rfl)) hby) rfl rfl ?_
 rintro _ w ⟨vr41, rfl, hm_, okr41, hr_, hf_, ho41_⟩; refine ⟨_, rfl, ?_⟩; clear F; intro a F; have H := H.newRow 41 hm_ hr_ hf_ ho41_; obtain ⟨Ar41, cr41, rfl⟩ := (H.row 41 rfl).form
 refine la F rfl (x_move (F.t 17 rfl)) fun a F => ?_
 refine la F rfl (x_extract (F.t 15 rfl) rfl) fun a F => ?_
 refine la F rfl (x_extract (F.t 15 rfl) rfl) fun a F => ?_
 refine la F rfl (x_assign (F.t 18 rfl)) fun a F => ?_
 refine la F rfl (x_assign (F.t 19 rfl)) fun a F => ?_
 refine wn (hK2 _ _ ?_)
 refine wp_seq_k fun _ hK3 => ?_
 refine sr fun _ hK4 => ?_
 refine la F rfl (x_move (F.t 5 rfl)) fun a F => ?_
 refine la F rfl (x_neq (F.t 20 rfl) rfl) fun a F => ?_
 refine la F rfl (x_move (F.t 21 rfl)) fun a F => ?_
 refine split_bool F 22 rfl (fun hb22 => ?_) (fun hb22 => ?_)
 ·have hc22 := hb22; try simp only [bL] at hc22
  have hz : adecR bs = none := adec_none (by cases hd : decR bs with | none => rfl | some l => rw [hd] at hc22; exact absurd rfl hc22)
  refine los F hb22 rfl fun a F => ?_
  refine los F hb22 rfl fun a F => ?_
  refine los F hb22 rfl fun a F => ?_
  refine la F rfl (x_pickT (F.t 22 rfl) hb22 rfl) fun a F => ?_
  refine wn (hK4 _ _ ?_)
  refine wp_cond_true (F.t 26 rfl) ?_
  refine sr fun _ hK5 => ?_
  refine la F rfl (x_assign rfl) fun a F => ?_
  refine la F rfl (x_assign rfl) fun a F => ?_
  refine wn (hK5 _ _ ?_)
  refine wp_ret ?_
  try simp only [Exit.then, Exit.inBlock]
  exact fin_ret F (res2 F rfl rfl rfl) ⟨.slice none 0 0, by rw [hz] <;> rfl, H.mods, by rw [hz]; exact RowOut.nil _ _ _ _⟩
 have hc22 := hb22; try simp only [bL] at hc22
 obtain ⟨dl, hdl⟩ := dec_zero hc22
 refine lgs F hb22 rfl (x_move (F.t 4 rfl)) fun a F => ?_
 refine lgs F hb22 rfl (x_len_slice Tryz.underlying60 (F.t 23 rfl)) fun a F => ?_
 refine lgs F hb22 rfl (x_gtr (F.t 24 rfl) rfl) fun a F => ?_
 refine la F rfl (x_pickF (F.t 22 rfl) hb22 (F.t 25 rfl)) fun a F => ?_
 refine wn (hK4 _ _ ?_)
 refine wp_cond_split (F.t 26 rfl) (fun hc26 => ?_) (fun hc26 => ?_)
 ·have hk26_1 := hc26; try simp only [bL] at hc26
  have hz := adec_many hdl (by rw [hdl] at hc26; exact hc26)
  refine sr fun _ hK6 => ?_
  refine la F rfl (x_assign rfl) fun a F => ?_
  refine la F rfl (x_assign rfl) fun a F => ?_
  refine wn (hK6 _ _ ?_)
  refine wp_ret ?_
  try simp only [Exit.then, Exit.inBlock]
  exact fin_ret F (res2 F rfl rfl rfl) ⟨.slice none 0 0, by rw [hz] <;> rfl, H.mods, by rw [hz]; exact RowOut.nil _ _ _ _⟩
 have hk26_2 := hc26; try simp only [bL] at hc26
 have h4 : ¬ 4 < (dl.length : Int) := by rw [hdl] at hc26; exact hc26
 have hsm : ∀ x ∈ dl, x.2.length ≤ 2000 := fun x hx => (okF_parts (List.all_eq_true.1 (enc_parts (enc_dec hby hdl)).1 x hx)).2.2
 refine wp_skip ?_
 refine hK3 _ _ ?_
 refine sr fun _ hK7 => ?_
 refine la F rfl (x_assign rfl) fun a F => ?_
 rw [hdl, Option.getD_some] at F H
 have H := H.freeze 41 rfl (fun kb => okr41 kb ∨ (Value.slice Ar41 dl.length cr41).ownBlock = some kb) (fun kb => Iff.rfl)
 have H := H.row0 6 StE 91
 refine wn (hK7 _ _ ?_)
 refine wp_seq_k fun _ hK8 => ?_
 refine sr fun _ hK9 => ?_
 refine la F rfl (x_assign rfl) fun a F => ?_
 refine wn (hK9 _ _ ?_)
 refine wp_block ?_
 refine wp_loop_ghost (fun n_ a w => ∃ k : Nat, ∃ out : List StepD, ∃ v6 : Value, n_ = dl.length - k ∧ (k ≤ dl.length) ∧ (RInv dl k out) ∧ Fr 100 a [(0, .slice A bs.length c), (4, .slice Ar41 dl.length cr41), (6, v6), (7, .int .i64 (k : Int))] ∧ Hp (fun _ => False) w0 w [(901, .rd_ (.int .u8) A bs c (fun k => k < w0.heap.size)), (41, .rd_ FE Ar41 dl cr41 (fun kb => okr41 kb ∨ (Value.slice Ar41 dl.length cr41).ownBlock = some kb)), (6, .row StE 91 v6 out (fun _ => False))]) (dl.length) ?_ ?_
 ·exact ⟨0, [], .slice none 0 0, rfl, by omega, RInv.nil _, ((((F.bare.add F 7 rfl).add F 6 rfl).add F 4 rfl).add F 0 rfl), H.sub _ (sub_cons (sub_cons (sub_cons (sub_nil _) 6 rfl) 41 rfl) 901 rfl)⟩
 rintro _ a w ⟨k, out, v6, rfl, hq0_0, hq0_1, F, H⟩
 refine wp_seq_k fun _ hK10 => ?_
 refine sr fun _ hK11 => ?_
 refine la F rfl (x_move (F.t 7 rfl)) fun a F => ?_
 refine la F rfl (x_move (F.t 4 rfl)) fun a F => ?_
 refine la F rfl (x_len_slice Tryz.underlying60 (F.t 28 rfl)) fun a F => ?_
 refine la F rfl (x_lss (F.t 27 rfl) (F.t 29 rfl)) fun a F => ?_
 refine wn (hK11 _ _ ?_)
 refine wp_cond_split (F.t 30 rfl) (fun hc30 => ?_) (fun hc30 => ?_)
 ·have hk30_3 := hc30; try simp only [bL] at hc30
  refine wp_skip ?_
  refine hK10 _ _ ?_
  refine wp_seq_k fun _ hK12 => ?_
  refine wp_block ?_
  refine sr fun _ hK13 => ?_
  obtain ⟨fA1, fc1, hfr1, hf1_0, hf1_1, hfw1⟩ := Rd.fld ((H.rd 41 rfl)) (gf_some (xs := dl) (i := (k : Int)) (by omega) (by omega))
  have H := H.subrd 41 rfl 1001 hfr1 (fun _ h => h)
  have H := H.subcels 41 rfl 1499 hfw1 (Rd.inok ((H.rd 41 rfl)) (by omega) _)
  have H := H.subcel 41 rfl 1500 hf1_0 (Rd.inok ((H.rd 41 rfl)) (by omega) _)
  have H := H.subcel 41 rfl 1501 hf1_1 (Rd.inok ((H.rd 41 rfl)) (by omega) _)
  have hmem : (gf dl (k : Int)) ∈ dl := List.mem_of_getElem? (gf_some (xs := dl) (i := (k : Int)) (by omega) (by omega))
  have hbf := fld_bytes hby hdl _ hmem
  have hsf := hsm _ hmem
  refine la F rfl (x_move (F.t 4 rfl)) fun a F => ?_
  refine la F rfl (x_move (F.t 7 rfl)) fun a F => ?_
  refine la F rfl (x_iaddr_A Tryz.underlying60 ty57 ((H.rd 41 rfl)) (F.t 33 rfl) (F.t 34 rfl) (by omega) (by omega) _) fun a F => ?_
  refine la F rfl (x_faddrA ((H.rd 41 rfl)) (by omega) _ Tryz.underlying57 rfl ty27 (by decide) (F.t 35 rfl) rfl) fun a F => ?_
  refine la F rfl (x_load1 ty27 (F.t 36 rfl) (H.holds 1501 _ rfl)) fun a F => ?_
  refine la F rfl (x_b2s Tryz.underlying27 Tryz.underlying5 Tryz.underlying9 ((H.rd 1001 rfl)) (F.t 37 rfl)) fun a F => ?_
  refine la F rfl (x_assign (F.t 38 rfl)) fun a F => ?_
  refine wn (hK13 _ _ ?_)
  refine wp_seq_k fun _ hK14 => ?_
  refine sr fun _ hK15 => ?_
  refine la F rfl (x_move (F.t 8 rfl)) fun a F => ?_
  refine la F rfl (x_len_sn (xs := ((gf dl (k : Int)).2)) Tryz.underlying9 (F.t 39 rfl)) fun a F => ?_
  refine la F rfl (x_lss (F.t 40 rfl) rfl) fun a F => ?_
  refine la F rfl (x_move (F.t 41 rfl)) fun a F => ?_
  refine split_bool F 42 rfl (fun hb42 => ?_) (fun hb42 => ?_)
  ·have hc42 := hb42; try simp only [bL] at hc42
   have hz := adec_stop hdl h4 hc30 (stepF_short (.inl (by omega)))
   refine los F hb42 rfl fun a F => ?_
   refine los F hb42 rfl fun a F => ?_
   refine los F hb42 rfl fun a F => ?_
   refine los F hb42 rfl fun a F => ?_
   refine los F hb42 rfl fun a F => ?_
   refine los F hb42 rfl fun a F => ?_
   refine los F hb42 rfl fun a F => ?_
   refine la F rfl (x_pickT (F.t 42 rfl) hb42 rfl) fun a F => ?_
   refine wn (hK15 _ _ ?_)
   refine wp_cond_true (F.t 50 rfl) ?_
   refine sr fun _ hK16 => ?_
   refine la F rfl (x_assign rfl) fun a F => ?_
   refine la F rfl (x_assign rfl) fun a F => ?_
   refine wn (hK16 _ _ ?_)
   refine wp_ret ?_
   try simp only [Exit.then, Exit.inBlock]
   exact fin_ret F (res2 F rfl rfl rfl) ⟨.slice none 0 0, by rw [hz] <;> rfl, H.mods, by rw [hz]; exact RowOut.nil _ _ _ _⟩
  have hc42 := hb42; try simp only [bL] at hc42
  refine lgs F hb42 rfl (x_move (F.t 8 rfl)) fun a F => ?_
  refine lgs F hb42 rfl (x_len_sn (xs := ((gf dl (k : Int)).2)) Tryz.underlying9 (F.t 43 rfl)) fun a F => ?_
  refine lgs F hb42 rfl (x_move (F.t 8 rfl)) fun a F => ?_
  refine lgs F hb42 rfl (x_idxS (xs := ((gf dl (k : Int)).2)) Tryz.underlying9 (F.t 45 rfl) rfl hbf (by omega) (by omega)) fun a F => ?_
  refine lgs F hb42 rfl (x_conv Tryz.underlying3 ⟨_, Tryz.underlying5⟩ (F.t 46 rfl) (w64 (by have := (hbf.gi 0).1; have := (hbf.gi 0).2; omega) (by have := (hbf.gi 0).1; have := (hbf.gi 0).2; omega))) fun a F => ?_
  refine lgs F hb42 rfl (x_add rfl (F.t 47 rfl) (w64 (by have := (hbf.gi 0).1; have := (hbf.gi 0).2; omega) (by have := (hbf.gi 0).1; have := (hbf.gi 0).2; omega))) fun a F => ?_
  refine lgs F hb42 rfl (x_lss (F.t 44 rfl) (F.t 48 rfl)) fun a F => ?_
  refine la F rfl (x_pickF (F.t 42 rfl) hb42 (F.t 49 rfl)) fun a F => ?_
  refine wn (hK15 _ _ ?_)
  refine wp_cond_split (F.t 50 rfl) (fun hc50 => ?_) (fun hc50 => ?_)
  ·have hk50_4 := hc50; try simp only [bL] at hc50
   have hz := adec_stop hdl h4 hc30 (stepF_short (.inr (by omega)))
   refine sr fun _ hK17 => ?_
   refine la F rfl (x_assign rfl) fun a F => ?_
   refine la F rfl (x_assign rfl) fun a F => ?_
   refine wn (hK17 _ _ ?_)
   refine wp_ret ?_
   try simp only [Exit.then, Exit.inBlock]
   exact fin_ret F (res2 F rfl rfl rfl) ⟨.slice none 0 0, by rw [hz] <;> rfl, H.mods, by rw [hz]; exact RowOut.nil _ _ _ _⟩
  have hk50_5 := hc50; try simp only [bL] at hc50
  refine wp_skip ?_
  refine hK14 _ _ ?_
  refine wp_seq_k fun _ hK18 => ?_
  refine r_start [(901, .rd_ (.int .u8) A bs c (fun k => k < w0.heap.size)), (41, .rd_ FE Ar41 dl cr41 (fun kb => okr41 kb ∨ (Value.slice Ar41 dl.length cr41).ownBlock = some kb)), (1001, .rd_ (.int .u8) (fA1) (gf dl (k : Int)).2 fc1 (fun kb => okr41 kb ∨ (Value.slice Ar41 dl.length cr41).ownBlock = some kb)), (1499, .cels (adr Ar41 (Int.toNat (k : Int) * 2)) #[.int .i64 (gf dl (k : Int)).1, .slice fA1 (gf dl (k : Int)).2.length fc1]), (1500, .cel (adr Ar41 (Int.toNat (k : Int) * 2)) (.int .i64 (gf dl (k : Int)).1)), (1501, .cel (adr Ar41 (Int.toNat (k : Int) * 2 + 1)) (.slice fA1 (gf dl (k : Int)).2.length fc1))] (by kernel_rfl) H fun H => ?_
  have hS : SL [(901, .rd_ (.int .u8) A bs c (fun k => k < w0.heap.size)), (41, .rd_ FE Ar41 dl cr41 (fun kb => okr41 kb ∨ (Value.slice Ar41 dl.length cr41).ownBlock = some kb)), (1001, .rd_ (.int .u8) (fA1) (gf dl (k : Int)).2 fc1 (fun kb => okr41 kb ∨ (Value.slice Ar41 dl.length cr41).ownBlock = some kb)), (1499, .cels (adr Ar41 (Int.toNat (k : Int) * 2)) #[.int .i64 (gf dl (k : Int)).1, .slice fA1 (gf dl (k : Int)).2.length fc1]), (1500, .cel (adr Ar41 (Int.toNat (k : Int) * 2)) (.int .i64 (gf dl (k : Int)).1)), (1501, .cel (adr Ar41 (Int.toNat (k : Int) * 2 + 1)) (.slice fA1 (gf dl (k : Int)).2.length fc1))] _ := SL.of H (sub_cons (sub_cons (sub_cons (sub_cons (sub_cons (sub_cons (sub_nil _) 1501 rfl) 1500 rfl) 1499 rfl) 1001 rfl) 41 rfl) 901 rfl)
  refine rT 0 F rfl (by kernel_rfl) pq rfl hS (fun w hS => x_move (F.t 4 rfl)) rfl fun a F => ?_
  refine rT 1 F rfl (by kernel_rfl) pq rfl hS (fun w hS => x_move (F.t 7 rfl)) rfl fun a F => ?_
  refine rT 2 F rfl (by kernel_rfl) pq rfl hS (fun w hS => x_iaddr_A Tryz.underlying60 ty57 ((H.rd 41 rfl)) (F.t 51 rfl) (F.t 52 rfl) (by omega) (by omega) _) rfl fun a F => ?_
  refine rT 3 F rfl (by kernel_rfl) pq rfl hS (fun w hS => x_faddrA ((SL.rd hS 41 rfl)) (by omega) _ Tryz.underlying57 rfl ty3 (by decide) (F.t 53 rfl) rfl) rfl fun a F => ?_
  refine rT 4 F rfl (by kernel_rfl) pq rfl hS (fun w hS => x_load1 ty3 (F.t 54 rfl) (hS 1500 _ rfl)) rfl fun a F => ?_
  refine rT 5 F rfl (by kernel_rfl) pq rfl hS (fun w hS => x_move (F.t 8 rfl)) rfl fun a F => ?_
  refine rT 6 F rfl (by kernel_rfl) pq rfl hS (fun w hS => x_move (F.t 8 rfl)) rfl fun a F => ?_
  refine rT 7 F rfl (by kernel_rfl) pq rfl hS (fun w hS => x_idxS (xs := ((gf dl (k : Int)).2)) Tryz.underlying9 (F.t 57 rfl) rfl hbf (by omega) (by omega)) rfl fun a F => ?_
  refine rT 8 F rfl (by kernel_rfl) pq rfl hS (fun w hS => x_conv Tryz.underlying3 ⟨_, Tryz.underlying5⟩ (F.t 58 rfl) (w64 (by have := (hbf.gi 0).1; have := (hbf.gi 0).2; omega) (by have := (hbf.gi 0).1; have := (hbf.gi 0).2; omega))) rfl fun a F => ?_
  refine rT 9 F rfl (by kernel_rfl) pq rfl hS (fun w hS => x_add rfl (F.t 59 rfl) (w64 (by have := (hbf.gi 0).1; have := (hbf.gi 0).2; omega) (by have := (hbf.gi 0).1; have := (hbf.gi 0).2; omega))) rfl fun a F => ?_
  refine rT 10 F rfl (by kernel_rfl) pq rfl hS (fun w hS => x_sliceSlh (xs := ((gf dl (k : Int)).2)) Tryz.underlying9 (F.t 56 rfl) rfl (F.t 60 rfl) (by omega) (by have := (hbf.gi 0).1; have := (hbf.gi 0).2; omega) (by omega)) rfl fun a F => ?_
  refine rT 11 F rfl (by kernel_rfl) pq rfl hS (fun w hS => x_buildS (cells := #[.int .i64 (gf dl (k : Int)).1, .string (strOfNums (keyF (gf dl (k : Int)))), .string (strOfNums []), .int .i64 0]) (places := #[(0, 1), (1, 1), (2, 1), (3, 1)]) Tryz.underlying91 ty91 (by kernel_rfl) (by simp only [bM, F.t 55 rfl, F.t 61 rfl] <;> rfl) rfl) rfl fun a F => ?_
  refine r_do 12 rfl (by kernel_rfl) rfl rfl ?_
  refine w_alloc 9 F H rfl ty91 ?_
  clear F H; intro a w b9 F H
  refine aN (SL.of H (sub_cons (sub_cons (sub_cons (sub_cons (sub_cons (sub_cons (sub_nil _) 1501 rfl) 1500 rfl) 1499 rfl) 1001 rfl) 41 rfl) 901 rfl)) fun hS => ?_
  refine r_do 13 rfl (by kernel_rfl) rfl rfl ?_
  refine w_storeA 9 H ty91 rfl (F.t 9 rfl) (F.t 62 rfl) rfl (by simp [Value.cells, Value.oneCell']) rfl ?_
  clear H; intro w H
  refine aN (SL.of H (sub_cons (sub_cons (sub_cons (sub_cons (sub_cons (sub_cons (sub_nil _) 1501 rfl) 1500 rfl) 1499 rfl) 1001 rfl) 41 rfl) 901 rfl)) fun hS => ?_
  refine r_end (by kernel_rfl) ?_; clear hS
  refine hK18 _ _ ?_
  refine sr fun _ hK19 => ?_
  refine la F rfl (x_move (F.t 8 rfl)) fun a F => ?_
  refine la F rfl (x_move (F.t 8 rfl)) fun a F => ?_
  refine la F rfl (x_idxS (xs := ((gf dl (k : Int)).2)) Tryz.underlying9 (F.t 64 rfl) rfl hbf (by omega) (by omega)) fun a F => ?_
  refine la F rfl (x_conv Tryz.underlying3 ⟨_, Tryz.underlying5⟩ (F.t 65 rfl) (w64 (by have := (hbf.gi 0).1; have := (hbf.gi 0).2; omega) (by have := (hbf.gi 0).1; have := (hbf.gi 0).2; omega))) fun a F => ?_
  refine la F rfl (x_add rfl (F.t 66 rfl) (w64 (by have := (hbf.gi 0).1; have := (hbf.gi 0).2; omega) (by have := (hbf.gi 0).1; have := (hbf.gi 0).2; omega))) fun a F => ?_
  refine la F rfl (x_sliceSl (xs := ((gf dl (k : Int)).2)) Tryz.underlying9 (F.t 63 rfl) (F.t 67 rfl) (by have := (hbf.gi 0).1; have := (hbf.gi 0).2; omega) (by omega)) fun a F => ?_
  refine la F rfl (x_assign (F.t 68 rfl)) fun a F => ?_
  refine wn (hK19 _ _ ?_)
  refine wp_seq_k fun _ hK20 => ?_
  refine sr fun _ hK21 => ?_
  refine la F rfl (x_faddr Tryz.underlying91 rfl ty89 (by decide) (F.t 9 rfl) rfl) fun a F => ?_
  refine la F rfl (x_load1 ty89 (F.t 69 rfl) (blk_cell (H.at 9 rfl) 0 rfl)) fun a F => ?_
  refine la F rfl (x_eql (F.t 70 rfl) rfl) fun a F => ?_
  refine wn (hK21 _ _ ?_)
  refine wp_cond_split (F.t 71 rfl) (fun hc71 => ?_) (fun hc71 => ?_)
  ·have hk71_6 := hc71; try simp only [bL] at hc71
   refine sr fun _ hK22 => ?_
   refine la F rfl (x_move (F.t 10 rfl)) fun a F => ?_
   refine lp rfl ?_
   refine w_call F (x_enter Tryz.func104 (by kernel_rfl) rfl (by simp only [bM, F.t 73 rfl] <;> rfl)) (rnumber_calls (xs := (restF (gf dl (k : Int)))) _ (by unfold restF; rw [List.length_drop]; omega) (hbf.drop _)) rfl rfl ?_
   rintro _ w ⟨vn, rfl, hm_, hfv, hvn⟩; refine ⟨_, rfl, ?_⟩; clear F; intro a F; have H := H.same hm_
   refine la F rfl (x_move (F.t 74 rfl)) fun a F => ?_
   refine la F rfl (x_extract (F.t 72 rfl) rfl) fun a F => ?_
   refine la F rfl (x_extract (F.t 72 rfl) rfl) fun a F => ?_
   refine la F rfl (x_assign (F.t 75 rfl)) fun a F => ?_
   refine la F rfl (x_assign (F.t 76 rfl)) fun a F => ?_
   refine wn (hK22 _ _ ?_)
   refine wp_region_lit ?_
   refine la F rfl (x_move (F.t 11 rfl)) fun a F => ?_
   refine la F rfl (x_faddr Tryz.underlying91 rfl ty2 (by decide) (F.t 9 rfl) rfl) fun a F => ?_
   refine lp rfl ?_
   refine w_store 9 H ty2 rfl (F.t 78 rfl) (F.t 77 rfl) rfl (one1 rfl rfl) (by first | decide | exact Nat.le_of_ble_eq_true rfl) ?_
   clear H; intro w H
   have hz := stepF_add (f := (gf dl (k : Int))) (by omega) (by omega) hc71 hvn
   have hsb := sa_bytes hbf hfv
   refine wn (hK20 _ _ ?_)
   refine wp_region_lit ?_
   refine la F rfl (x_move (F.t 6 rfl)) fun a F => ?_
   refine la F rfl (x_loadn ty91 (F.t 9 rfl) rfl (blk_whole (H.at 9 rfl))) fun a F => ?_
   refine lp rfl ?_
   refine w_lit1 83 StE (((gf dl (k : Int)).1, keyF (gf dl (k : Int)), [], vn) : StepD) #[.int .i64 (((gf dl (k : Int)).1, keyF (gf dl (k : Int)), [], vn) : StepD).1, .string (strOfNums (((gf dl (k : Int)).1, keyF (gf dl (k : Int)), [], vn) : StepD).2.1), .string (strOfNums (((gf dl (k : Int)).1, keyF (gf dl (k : Int)), [], vn) : StepD).2.2.1), .int .i64 (((gf dl (k : Int)).1, keyF (gf dl (k : Int)), [], vn) : StepD).2.2.2] (fun _ => False) F H rfl Tryz.underlying62 ty91 (by simp only [bM, F.t 82 rfl] <;> rfl) (by decide) (by kernel_rfl) (st_mk (((gf dl (k : Int)).1, keyF (gf dl (k : Int)), [], vn) : StepD)) (fun kb hk => hk.elim) ?_
   clear F H; intro a w b83 F hb83_ H
   refine lp rfl ?_
   refine w_append 6 83 (xs := out) (ys := ([(((gf dl (k : Int)).1, keyF (gf dl (k : Int)), [], vn) : StepD)])) F H rfl Tryz.underlying62 ty91 rfl rfl rfl rfl ((H.rd 83 rfl)) oI (F.t 81 rfl) (F.t 83 rfl) (by rw [hq0_1.len]; simp only [List.length_cons, List.length_nil]; omega) (by rw [hq0_1.len]; simp only [List.length_cons, List.length_nil, maxLen]; omega) (fun _ => False) (fun w' v' h => st_any h) (fun k_ hk_ => hk_.elim) ?_
   clear F H; intro a w v84 F H
   refine la F rfl (x_assign (F.t 84 rfl)) fun a F => ?_
   refine wn (hK12 _ _ ?_)
   refine wp_region_lit ?_
   refine la F rfl (x_move (F.t 7 rfl)) fun a F => ?_
   refine la F rfl (x_add (F.t 31 rfl) rfl (w64 (by omega) (by omega))) fun a F => ?_
   refine la F rfl (x_assign (F.t 32 rfl)) fun a F => ?_
   refine wpList_nil ?_
   exact ⟨_, by omega, ⟨k + 1, out ++ [(((gf dl (k : Int)).1, keyF (gf dl (k : Int)), [], vn) : StepD)], v84, rfl, by omega, hq0_1.step hz.2 hsb, ((((F.bare.add F 7 rfl).add F 6 rfl).add F 4 rfl).add F 0 rfl), H.sub _ (sub_cons (sub_cons (sub_cons (sub_nil _) 6 rfl) 41 rfl) 901 rfl)⟩⟩
  have hk71_7 := hc71; try simp only [bL] at hc71
  refine wp_region_lit ?_
  refine la F rfl (x_move (F.t 10 rfl)) fun a F => ?_
  refine la F rfl (x_faddr Tryz.underlying91 rfl ty9 (by decide) (F.t 9 rfl) rfl) fun a F => ?_
  refine lp rfl ?_
  refine w_store 9 H ty9 rfl (F.t 80 rfl) (F.t 79 rfl) rfl (one1 rfl rfl) (by first | decide | exact Nat.le_of_ble_eq_true rfl) ?_
  clear H; intro w H
  have hz := stepF_val (f := (gf dl (k : Int))) (by omega) (by omega) hc71
  have hsb := sv_bytes hbf
  refine wn (hK20 _ _ ?_)
  refine wp_region_lit ?_
  refine la F rfl (x_move (F.t 6 rfl)) fun a F => ?_
  refine la F rfl (x_loadn ty91 (F.t 9 rfl) rfl (blk_whole (H.at 9 rfl))) fun a F => ?_
  refine lp rfl ?_
  refine w_lit1 83 StE (((gf dl (k : Int)).1, keyF (gf dl (k : Int)), restF (gf dl (k : Int)), 0) : StepD) #[.int .i64 (((gf dl (k : Int)).1, keyF (gf dl (k : Int)), restF (gf dl (k : Int)), 0) : StepD).1, .string (strOfNums (((gf dl (k : Int)).1, keyF (gf dl (k : Int)), restF (gf dl (k : Int)), 0) : StepD).2.1), .string (strOfNums (((gf dl (k : Int)).1, keyF (gf dl (k : Int)), restF (gf dl (k : Int)), 0) : StepD).2.2.1), .int .i64 (((gf dl (k : Int)).1, keyF (gf dl (k : Int)), restF (gf dl (k : Int)), 0) : StepD).2.2.2] (fun _ => False) F H rfl Tryz.underlying62 ty91 (by simp only [bM, F.t 82 rfl] <;> rfl) (by decide) (by kernel_rfl) (st_mk (((gf dl (k : Int)).1, keyF (gf dl (k : Int)), restF (gf dl (k : Int)), 0) : StepD)) (fun kb hk => hk.elim) ?_
  clear F H; intro a w b83 F hb83_ H
  refine lp rfl ?_
  refine w_append 6 83 (xs := out) (ys := ([(((gf dl (k : Int)).1, keyF (gf dl (k : Int)), restF (gf dl (k : Int)), 0) : StepD)])) F H rfl Tryz.underlying62 ty91 rfl rfl rfl rfl ((H.rd 83 rfl)) oI (F.t 81 rfl) (F.t 83 rfl) (by rw [hq0_1.len]; simp only [List.length_cons, List.length_nil]; omega) (by rw [hq0_1.len]; simp only [List.length_cons, List.length_nil, maxLen]; omega) (fun _ => False) (fun w' v' h => st_any h) (fun k_ hk_ => hk_.elim) ?_
  clear F H; intro a w v84 F H
  refine la F rfl (x_assign (F.t 84 rfl)) fun a F => ?_
  refine wn (hK12 _ _ ?_)
  refine wp_region_lit ?_
  refine la F rfl (x_move (F.t 7 rfl)) fun a F => ?_
  refine la F rfl (x_add (F.t 31 rfl) rfl (w64 (by omega) (by omega))) fun a F => ?_
  refine la F rfl (x_assign (F.t 32 rfl)) fun a F => ?_
  refine wpList_nil ?_
  exact ⟨_, by omega, ⟨k + 1, out ++ [(((gf dl (k : Int)).1, keyF (gf dl (k : Int)), restF (gf dl (k : Int)), 0) : StepD)], v84, rfl, by omega, hq0_1.step hz.2 hsb, ((((F.bare.add F 7 rfl).add F 6 rfl).add F 4 rfl).add F 0 rfl), H.sub _ (sub_cons (sub_cons (sub_cons (sub_nil _) 6 rfl) 41 rfl) 901 rfl)⟩⟩
 have hk30_8 := hc30; try simp only [bL] at hc30
 obtain rfl : k = dl.length := by omega
 refine wp_exit ?_
 refine hK8 _ _ ?_
 refine sr fun _ hK23 => ?_
 obtain ⟨Ao6, co6, rfl⟩ := (H.row 6 rfl).form
 refine la F rfl (x_move (F.t 6 rfl)) fun a F => ?_
 refine lp rfl ?_
 refine w_call F (x_enter Tryz.func70 (by kernel_rfl) rfl (by simp only [bM, F.t 86 rfl] <;> rfl)) (raenc_calls _ (Row.rd (ok' := fun k_ => (fun _ => False) k_ ∨ (.slice Ao6 out.length co6 : Value).ownBlock = some k_) (H.row 6 rfl) (fun _ hk_ _ => .inl hk_) (fun _ hk_ => .inr hk_)) hq0_1.bytes) rfl rfl ?_
 rintro _ w ⟨vr87, rfl, hm_, hr_⟩; refine ⟨_, rfl, ?_⟩; clear F; intro a F; have H := Hp.rowOut H 87 hm_ hr_; obtain ⟨Ar87, cr87, rfl⟩ := (H.row 87 rfl).form
 refine la F rfl (x_move (F.t 87 rfl)) fun a F => ?_
 refine la F rfl (x_extract (F.t 85 rfl) rfl) fun a F => ?_
 refine la F rfl (x_extract (F.t 85 rfl) rfl) fun a F => ?_
 refine la F rfl (x_assign (F.t 88 rfl)) fun a F => ?_
 refine la F rfl (x_assign (F.t 89 rfl)) fun a F => ?_
 refine wn (hK23 _ _ ?_)
 refine wp_seq_k fun _ hK24 => ?_
 refine sr fun _ hK25 => ?_
 refine la F rfl (x_move (F.t 14 rfl)) fun a F => ?_
 refine la F rfl (x_neq (F.t 90 rfl) rfl) fun a F => ?_
 refine la F rfl (x_move (F.t 91 rfl)) fun a F => ?_
 refine split_bool F 92 rfl (fun hb92 => ?_) (fun hb92 => ?_)
 ·have hc92 := hb92; try simp only [bL] at hc92
  have hz := hq0_1.bad hby hdl h4 (fun h => hc92 h.1)
  refine los F hb92 rfl fun a F => ?_
  refine los F hb92 rfl fun a F => ?_
  refine los F hb92 rfl fun a F => ?_
  refine los F hb92 rfl fun a F => ?_
  refine los F hb92 rfl fun a F => ?_
  refine la F rfl (x_pickT (F.t 92 rfl) hb92 rfl) fun a F => ?_
  refine wn (hK25 _ _ ?_)
  refine wp_cond_true (F.t 98 rfl) ?_
  refine sr fun _ hK26 => ?_
  refine la F rfl (x_assign rfl) fun a F => ?_
  refine la F rfl (x_assign rfl) fun a F => ?_
  refine wn (hK26 _ _ ?_)
  refine wp_ret ?_
  try simp only [Exit.then, Exit.inBlock]
  exact fin_ret F (res2 F rfl rfl rfl) ⟨.slice none 0 0, by rw [hz] <;> rfl, H.mods, by rw [hz]; exact RowOut.nil _ _ _ _⟩
 have hc92 := hb92; try simp only [bL] at hc92
 refine lgs F hb92 rfl (x_move (F.t 13 rfl)) fun a F => ?_
 refine lgs F hb92 rfl (x_b2s Tryz.underlying27 Tryz.underlying5 Tryz.underlying9 (Row.rd (ok' := fun k_ => (fun _ => False) k_ ∨ (.slice Ar87 (encT out).length cr87 : Value).ownBlock = some k_) (H.row 87 rfl) (fun _ hk_ _ => .inl hk_) (fun _ hk_ => .inr hk_)) (F.t 93 rfl)) fun a F => ?_
 refine lgs F hb92 rfl (x_move (F.t 0 rfl)) fun a F => ?_
 refine lgs F hb92 rfl (x_b2s Tryz.underlying27 Tryz.underlying5 Tryz.underlying9 ((H.rd 901 rfl)) (F.t 95 rfl)) fun a F => ?_
 refine lgs F hb92 rfl (x_nen (xs := (encT out)) (ys := bs) (F.t 94 rfl) (F.t 96 rfl) (encT_byte hq0_1.bytes) hby) fun a F => ?_
 refine la F rfl (x_pickF (F.t 92 rfl) hb92 (F.t 97 rfl)) fun a F => ?_
 refine wn (hK25 _ _ ?_)
 refine wp_cond_split (F.t 98 rfl) (fun hc98 => ?_) (fun hc98 => ?_)
 ·have hk98_9 := hc98; try simp only [bL] at hc98
  have hz := hq0_1.bad hby hdl h4 (fun h => hc98 h.2)
  refine sr fun _ hK27 => ?_
  refine la F rfl (x_assign rfl) fun a F => ?_
  refine la F rfl (x_assign rfl) fun a F => ?_
  refine wn (hK27 _ _ ?_)
  refine wp_ret ?_
  try simp only [Exit.then, Exit.inBlock]
  exact fin_ret F (res2 F rfl rfl rfl) ⟨.slice none 0 0, by rw [hz] <;> rfl, H.mods, by rw [hz]; exact RowOut.nil _ _ _ _⟩
 have hk98_10 := hc98; try simp only [bL] at hc98
 have hz := hq0_1.good hdl hc92 hc98
 refine wp_skip ?_
 refine hK24 _ _ ?_
 refine sr fun _ hK28 => ?_
 refine la F rfl (x_move (F.t 6 rfl)) fun a F => ?_
 refine la F rfl (x_assign (F.t 99 rfl)) fun a F => ?_
 refine la F rfl (x_assign rfl) fun a F => ?_
 refine wn (hK28 _ _ ?_)
 refine wp_ret ?_
 try simp only [Exit.then, Exit.inBlock]
 exact fin_ret F (res2 F rfl rfl rfl) ⟨_, by rw [hz] <;> rfl, H.mods, by rw [hz]; exact Hp.out H 6 rfl⟩
end Go.Proofs.YtiiklnghnifmjaaGreatDoor.Act
set_option linter.unusedVariables false
set_option maxRecDepth 100000
set_option maxHeartbeats 1000000
set_option linter.unusedSimpArgs false
namespace Go.Proofs.YtiiklnghnifmjaaGreatDoor.Act
open Go.RowKit Go.Proofs.YtiiklnghnifmjaaGreatDoor.Sx Go.Proofs.YtiiklnghnifmjaaGreatDoor.Cod Go.Proofs.YtiiklnghnifmjaaGreatDoor.Num
theorem rdecC_calls (w0 : World) {ok : Nat → Prop} {A : Option Addr} {bs : List Int} {c : Nat} (hrb : Rd (.int .u8) w0 ok A bs c) (hby : Byte bs) : Calls Tryz.prog 43 #[.slice A bs.length c] w0 fun e w' => ∃ (x : ChangeD) (Ad : Option Addr) (cd : Nat) (g : Int), e = .returned (.tuple #[.agg #[.int .i64 x.kind, .string (strOfNums x.key), .string (strOfNums x.value), .string (strOfNums x.timer.name), .int .i64 x.timer.ver, .int .u64 x.timer.tick, .int .u64 x.timer.every, .slice Ad x.timer.steps.length cd], .int .i64 g]) ∧ Mods (fun _ => False) w0 w' ∧ RowOut StE 91 w0 w' (.slice Ad x.timer.steps.length cd) x.timer.steps ∧ DecC bs x g := by
 refine cow Tryz.func43 rfl Tryz.ntmps43 (Nat.le_of_ble_eq_true rfl) fun a F => ?_
 have H := Hp.nil (fun _ => False) w0
 have H := H.arg 901 hrb.all (fun _ h => ⟨h, fun h => h⟩)
 have hleb := hrb.le; unfold maxLen at hleb
 refine sr fun _ hK1 => ?_
 refine lp rfl ?_
 refine w_alloc 2 F H rfl ty66 ?_
 clear F H; intro a w b2 F H
 refine la F rfl (x_assign rfl) fun a F => ?_
 refine wn (hK1 _ _ ?_)
 refine sr fun _ hK2 => ?_
 refine la F rfl (x_move (F.t 0 rfl)) fun a F => ?_
 refine lp rfl ?_
 refine w_call F (x_enter Tryz.func41 (by kernel_rfl) rfl (by simp only [bM, F.t 18 rfl] <;> rfl)) (refDec_calls _ ((H.rd 901 rfl)) hby) rfl rfl ?_
 rintro _ w ⟨vr19, rfl, hm_, okr19, hr_, hf_, ho19_⟩; refine ⟨_, rfl, ?_⟩; clear F; intro a F; have H := H.newRow 19 hm_ hr_ hf_ ho19_; obtain ⟨Ar19, cr19, rfl⟩ := (H.row 19 rfl).form
 refine la F rfl (x_move (F.t 19 rfl)) fun a F => ?_
 refine la F rfl (x_extract (F.t 17 rfl) rfl) fun a F => ?_
 refine la F rfl (x_extract (F.t 17 rfl) rfl) fun a F => ?_
 refine la F rfl (x_assign (F.t 20 rfl)) fun a F => ?_
 refine la F rfl (x_assign (F.t 21 rfl)) fun a F => ?_
 obtain ⟨dl, hdl0⟩ : ∃ dl, dl = (decR bs).getD [] := ⟨_, rfl⟩
 rw [← hdl0] at F H
 have hsh : short dl = true := by rw [hdl0]; exact dl_short hby
 have hbf : ∀ f ∈ dl, Byte f.2 := by rw [hdl0]; exact dl_byte hby
 have H := H.freeze 19 rfl (fun kb => okr19 kb ∨ (Value.slice Ar19 dl.length cr19).ownBlock = some kb) (fun kb => Iff.rfl)
 refine wn (hK2 _ _ ?_)
 refine wp_seq_k fun _ hK3 => ?_
 refine sr fun _ hK4 => ?_
 refine la F rfl (x_move (F.t 5 rfl)) fun a F => ?_
 refine la F rfl (x_neq (F.t 22 rfl) rfl) fun a F => ?_
 refine la F rfl (x_move (F.t 23 rfl)) fun a F => ?_
 refine split_bool F 24 rfl (fun hb24 => ?_) (fun hb24 => ?_)
 ·have hc24 := hb24; try simp only [bL] at hc24
  have hz : NoC bs := noC_none (by cases hd : decR bs with | none => rfl | some l => rw [hd] at hc24; exact absurd rfl hc24)
  refine los F hb24 rfl fun a F => ?_
  refine los F hb24 rfl fun a F => ?_
  refine los F hb24 rfl fun a F => ?_
  refine la F rfl (x_pickT (F.t 24 rfl) hb24 rfl) fun a F => ?_
  refine la F rfl (x_move (F.t 28 rfl)) fun a F => ?_
  refine lo F rfl fun a F => ?_
  refine lo F rfl fun a F => ?_
  refine lo F rfl fun a F => ?_
  refine lo F rfl fun a F => ?_
  refine lo F rfl fun a F => ?_
  refine lo F rfl fun a F => ?_
  refine la F rfl (x_pickT (F.t 29 rfl) rfl rfl) fun a F => ?_
  refine wn (hK4 _ _ ?_)
  refine wp_cond_true (F.t 36 rfl) ?_
  refine sr fun _ hK5 => ?_
  refine la F rfl (x_buildS (cells := #[.int .i64 0, .string (strOfNums []), .string (strOfNums []), .string (strOfNums []), .int .i64 0, .int .u64 0, .int .u64 0, .slice none 0 0]) (places := #[(0, 1), (1, 1), (2, 1), (3, 5)]) Tryz.underlying66 ty66 (by kernel_rfl) Array.map_empty rfl) fun a F => ?_
  refine lp rfl ?_
  refine w_storeA 2 H ty66 rfl (F.t 2 rfl) (F.t 37 rfl) rfl (by simp [Value.cells, Value.oneCell']) rfl ?_
  clear H; intro w H
  refine la F rfl (x_assign rfl) fun a F => ?_
  refine wn (hK5 _ _ ?_)
  refine wp_ret ?_
  try simp only [Exit.then, Exit.inBlock]
  exact fin_ret F (resct F rfl rfl rfl (H.at 2 rfl) ty66 rfl) ⟨⟨0, [], [], ⟨[], 0, 0, 0, []⟩⟩, none, 0, 12, rfl, H.mods, RowOut.nil _ _ _ _, DecC.no hz⟩
 have hc24 := hb24; try simp only [bL] at hc24
 have hdl : decR bs = some dl := by rw [hdl0]; cases hd : decR bs with | some l => rfl | none => rw [hd] at hc24; exact absurd hc24 (by decide)
 refine lgs F hb24 rfl (x_move (F.t 4 rfl)) fun a F => ?_
 refine lgs F hb24 rfl (x_len_slice Tryz.underlying60 (F.t 25 rfl)) fun a F => ?_
 refine lgs F hb24 rfl (x_lss (F.t 26 rfl) rfl) fun a F => ?_
 refine la F rfl (x_pickF (F.t 24 rfl) hb24 (F.t 27 rfl)) fun a F => ?_
 refine la F rfl (x_move (F.t 28 rfl)) fun a F => ?_
 refine split_bool F 29 rfl (fun hb29 => ?_) (fun hb29 => ?_)
 ·have hc29 := hb29; try simp only [bL] at hc29
  have hz : NoC bs := noC_shape hdl (fun h => by have := h.two; omega)
  refine los F hb29 rfl fun a F => ?_
  refine los F hb29 rfl fun a F => ?_
  refine los F hb29 rfl fun a F => ?_
  refine los F hb29 rfl fun a F => ?_
  refine los F hb29 rfl fun a F => ?_
  refine los F hb29 rfl fun a F => ?_
  refine la F rfl (x_pickT (F.t 29 rfl) hb29 rfl) fun a F => ?_
  refine wn (hK4 _ _ ?_)
  refine wp_cond_true (F.t 36 rfl) ?_
  refine sr fun _ hK6 => ?_
  refine la F rfl (x_buildS (cells := #[.int .i64 0, .string (strOfNums []), .string (strOfNums []), .string (strOfNums []), .int .i64 0, .int .u64 0, .int .u64 0, .slice none 0 0]) (places := #[(0, 1), (1, 1), (2, 1), (3, 5)]) Tryz.underlying66 ty66 (by kernel_rfl) Array.map_empty rfl) fun a F => ?_
  refine lp rfl ?_
  refine w_storeA 2 H ty66 rfl (F.t 2 rfl) (F.t 37 rfl) rfl (by simp [Value.cells, Value.oneCell']) rfl ?_
  clear H; intro w H
  refine la F rfl (x_assign rfl) fun a F => ?_
  refine wn (hK6 _ _ ?_)
  refine wp_ret ?_
  try simp only [Exit.then, Exit.inBlock]
  exact fin_ret F (resct F rfl rfl rfl (H.at 2 rfl) ty66 rfl) ⟨⟨0, [], [], ⟨[], 0, 0, 0, []⟩⟩, none, 0, 12, rfl, H.mods, RowOut.nil _ _ _ _, DecC.no hz⟩
 have hc29 := hb29; try simp only [bL] at hc29
 obtain ⟨fA1, fc1, hfr1, hf1_0, hf1_1, hfw1⟩ := Rd.fld ((H.rd 19 rfl)) (gf_some (xs := dl) (i := 0) (by omega) (by omega))
 have H := H.subrd 19 rfl 1001 hfr1 (fun _ h => h)
 have H := H.subcels 19 rfl 1499 hfw1 (Rd.inok ((H.rd 19 rfl)) (by omega) _)
 have H := H.subcel 19 rfl 1500 hf1_0 (Rd.inok ((H.rd 19 rfl)) (by omega) _)
 have H := H.subcel 19 rfl 1501 hf1_1 (Rd.inok ((H.rd 19 rfl)) (by omega) _)
 refine lgs F hb29 rfl (x_move (F.t 4 rfl)) fun a F => ?_
 refine lgs F hb29 rfl (x_iaddr_A Tryz.underlying60 ty57 ((H.rd 19 rfl)) (F.t 30 rfl) rfl (by omega) (by omega) _) fun a F => ?_
 refine lgs F hb29 rfl (x_faddrA ((H.rd 19 rfl)) (by omega) _ Tryz.underlying57 rfl ty27 (by decide) (F.t 31 rfl) rfl) fun a F => ?_
 refine lgs F hb29 rfl (x_load1 ty27 (F.t 32 rfl) (H.holds 1501 _ rfl)) fun a F => ?_
 refine lgs F hb29 rfl (x_len_slice Tryz.underlying27 (F.t 33 rfl)) fun a F => ?_
 refine lgs F hb29 rfl (x_neq (F.t 34 rfl) rfl) fun a F => ?_
 refine la F rfl (x_pickF (F.t 29 rfl) hb29 (F.t 35 rfl)) fun a F => ?_
 refine wn (hK4 _ _ ?_)
 refine wp_cond_split (F.t 36 rfl) (fun hc36 => ?_) (fun hc36 => ?_)
 ·have hk36_1 := hc36; try simp only [bL] at hc36
  have hz : NoC bs := noC_shape hdl (fun h => by have := h.head; omega)
  refine sr fun _ hK7 => ?_
  refine la F rfl (x_buildS (cells := #[.int .i64 0, .string (strOfNums []), .string (strOfNums []), .string (strOfNums []), .int .i64 0, .int .u64 0, .int .u64 0, .slice none 0 0]) (places := #[(0, 1), (1, 1), (2, 1), (3, 5)]) Tryz.underlying66 ty66 (by kernel_rfl) Array.map_empty rfl) fun a F => ?_
  refine lp rfl ?_
  refine w_storeA 2 H ty66 rfl (F.t 2 rfl) (F.t 37 rfl) rfl (by simp [Value.cells, Value.oneCell']) rfl ?_
  clear H; intro w H
  refine la F rfl (x_assign rfl) fun a F => ?_
  refine wn (hK7 _ _ ?_)
  refine wp_ret ?_
  try simp only [Exit.then, Exit.inBlock]
  exact fin_ret F (resct F rfl rfl rfl (H.at 2 rfl) ty66 rfl) ⟨⟨0, [], [], ⟨[], 0, 0, 0, []⟩⟩, none, 0, 12, rfl, H.mods, RowOut.nil _ _ _ _, DecC.no hz⟩
 have hk36_2 := hc36; try simp only [bL] at hc36
 have hl1 : ((gf dl 0).2.length : Int) = 1 := by omega
 refine wp_skip ?_
 refine hK3 _ _ ?_
 refine sr fun _ hK8 => ?_
 refine la F rfl (x_move (F.t 4 rfl)) fun a F => ?_
 refine la F rfl (x_iaddr_A Tryz.underlying60 ty57 ((H.rd 19 rfl)) (F.t 38 rfl) rfl (by omega) (by omega) _) fun a F => ?_
 refine la F rfl (x_faddrA ((H.rd 19 rfl)) (by omega) _ Tryz.underlying57 rfl ty27 (by decide) (F.t 39 rfl) rfl) fun a F => ?_
 refine la F rfl (x_load1 ty27 (F.t 40 rfl) (H.holds 1501 _ rfl)) fun a F => ?_
 refine la F rfl (x_iaddr_A Tryz.underlying27 ty5 ((H.rd 1001 rfl)) (F.t 41 rfl) rfl (by omega) (by omega) _) fun a F => ?_
 refine la F rfl (x_load1 ty5 (F.t 42 rfl) (((H.rd 1001 rfl)).cellA (gi_some (i := 0) (by omega) (by omega)))) fun a F => ?_
 refine la F rfl (x_conv Tryz.underlying61 ⟨_, Tryz.underlying5⟩ (F.t 43 rfl) (w64 (by have := ((gb0 hbf).gi 0); omega) (by have := ((gb0 hbf).gi 0); omega))) fun a F => ?_
 refine la F rfl (x_buildS (cells := #[.int .i64 (gi (gf dl 0).2 0), .string (strOfNums []), .string (strOfNums []), .string (strOfNums []), .int .i64 0, .int .u64 0, .int .u64 0, .slice none 0 0]) (places := #[(0, 1), (1, 1), (2, 1), (3, 5)]) Tryz.underlying66 ty66 (by kernel_rfl) (by simp only [bM, F.t 44 rfl] <;> rfl) rfl) fun a F => ?_
 refine lp rfl ?_
 refine w_alloc 6 F H rfl ty66 ?_
 clear F H; intro a w b6 F H
 refine lp rfl ?_
 refine w_storeA 6 H ty66 rfl (F.t 6 rfl) (F.t 45 rfl) rfl (by simp [Value.cells, Value.oneCell']) rfl ?_
 clear H; intro w H
 refine wn (hK8 _ _ ?_)
 refine wp_seq_k fun _ hK9 => ?_
 refine sr fun _ hK10 => ?_
 refine la F rfl (x_faddr Tryz.underlying66 rfl ty61 (by decide) (F.t 6 rfl) rfl) fun a F => ?_
 refine la F rfl (x_load1 ty61 (F.t 46 rfl) (blk_cell (H.at 6 rfl) 0 rfl)) fun a F => ?_
 refine la F rfl (x_eql (F.t 47 rfl) rfl) fun a F => ?_
 refine wn (hK10 _ _ ?_)
 refine wp_cond_split (F.t 48 rfl) (fun hc48 => ?_) (fun hc48 => ?_)
 ·have hk48_3 := hc48; try simp only [bL] at hc48
  refine wp_seq_k fun _ hK11 => ?_
  refine sr fun _ hK12 => ?_
  refine la F rfl (x_move (F.t 4 rfl)) fun a F => ?_
  refine la F rfl (x_len_slice Tryz.underlying60 (F.t 49 rfl)) fun a F => ?_
  refine la F rfl (x_neq (F.t 50 rfl) rfl) fun a F => ?_
  refine wn (hK12 _ _ ?_)
  refine wp_cond_split (F.t 51 rfl) (fun hc51 => ?_) (fun hc51 => ?_)
  ·have hk51_4 := hc51; try simp only [bL] at hc51
   have hz : NoC bs := noC_shape hdl (fun h => by have := (h.tim hc48).1; omega)
   refine sr fun _ hK13 => ?_
   refine la F rfl (x_buildS (cells := #[.int .i64 0, .string (strOfNums []), .string (strOfNums []), .string (strOfNums []), .int .i64 0, .int .u64 0, .int .u64 0, .slice none 0 0]) (places := #[(0, 1), (1, 1), (2, 1), (3, 5)]) Tryz.underlying66 ty66 (by kernel_rfl) Array.map_empty rfl) fun a F => ?_
   refine lp rfl ?_
   refine w_storeA 2 H ty66 rfl (F.t 2 rfl) (F.t 52 rfl) rfl (by simp [Value.cells, Value.oneCell']) rfl ?_
   clear H; intro w H
   refine la F rfl (x_assign rfl) fun a F => ?_
   refine wn (hK13 _ _ ?_)
   refine wp_ret ?_
   try simp only [Exit.then, Exit.inBlock]
   exact fin_ret F (resct F rfl rfl rfl (H.at 2 rfl) ty66 rfl) ⟨⟨0, [], [], ⟨[], 0, 0, 0, []⟩⟩, none, 0, 12, rfl, H.mods, RowOut.nil _ _ _ _, DecC.no hz⟩
  have hk51_5 := hc51; try simp only [bL] at hc51
  have hl6 : (dl.length : Int) = 6 := by omega
  refine wp_skip ?_
  refine hK11 _ _ ?_
  refine sr fun _ hK14 => ?_
  obtain ⟨fA2, fc2, hfr2, hf2_0, hf2_1, hfw2⟩ := Rd.fld ((H.rd 19 rfl)) (gf_some (xs := dl) (i := 2) (by omega) (by omega))
  have H := H.subrd 19 rfl 2001 hfr2 (fun _ h => h)
  have H := H.subcels 19 rfl 2499 hfw2 (Rd.inok ((H.rd 19 rfl)) (by omega) _)
  have H := H.subcel 19 rfl 2500 hf2_0 (Rd.inok ((H.rd 19 rfl)) (by omega) _)
  have H := H.subcel 19 rfl 2501 hf2_1 (Rd.inok ((H.rd 19 rfl)) (by omega) _)
  refine la F rfl (x_move (F.t 4 rfl)) fun a F => ?_
  refine la F rfl (x_iaddr_A Tryz.underlying60 ty57 ((H.rd 19 rfl)) (F.t 54 rfl) rfl (by omega) (by omega) _) fun a F => ?_
  refine la F rfl (x_faddrA ((H.rd 19 rfl)) (by omega) _ Tryz.underlying57 rfl ty27 (by decide) (F.t 55 rfl) rfl) fun a F => ?_
  refine la F rfl (x_load1 ty27 (F.t 56 rfl) (H.holds 2501 _ rfl)) fun a F => ?_
  refine lp rfl ?_
  refine w_call F (x_enter Tryz.func42 (by kernel_rfl) rfl (by simp only [bM, F.t 57 rfl] <;> rfl)) (refNum_calls _ ((H.rd 2001 rfl)) (gb2 hbf)) rfl rfl ?_
  rintro _ w ⟨rfl, hm_⟩; refine ⟨_, rfl, ?_⟩; clear F; intro a F; have H := H.same hm_
  refine la F rfl (x_move (F.t 58 rfl)) fun a F => ?_
  refine la F rfl (x_extract (F.t 53 rfl) rfl) fun a F => ?_
  refine la F rfl (x_extract (F.t 53 rfl) rfl) fun a F => ?_
  refine la F rfl (x_assign (F.t 59 rfl)) fun a F => ?_
  refine la F rfl (x_assign (F.t 60 rfl)) fun a F => ?_
  refine wn (hK14 _ _ ?_)
  refine sr fun _ hK15 => ?_
  obtain ⟨fA3, fc3, hfr3, hf3_0, hf3_1, hfw3⟩ := Rd.fld ((H.rd 19 rfl)) (gf_some (xs := dl) (i := 3) (by omega) (by omega))
  have H := H.subrd 19 rfl 3001 hfr3 (fun _ h => h)
  have H := H.subcels 19 rfl 3499 hfw3 (Rd.inok ((H.rd 19 rfl)) (by omega) _)
  have H := H.subcel 19 rfl 3500 hf3_0 (Rd.inok ((H.rd 19 rfl)) (by omega) _)
  have H := H.subcel 19 rfl 3501 hf3_1 (Rd.inok ((H.rd 19 rfl)) (by omega) _)
  refine la F rfl (x_move (F.t 4 rfl)) fun a F => ?_
  refine la F rfl (x_iaddr_A Tryz.underlying60 ty57 ((H.rd 19 rfl)) (F.t 62 rfl) rfl (by omega) (by omega) _) fun a F => ?_
  refine la F rfl (x_faddrA ((H.rd 19 rfl)) (by omega) _ Tryz.underlying57 rfl ty27 (by decide) (F.t 63 rfl) rfl) fun a F => ?_
  refine la F rfl (x_load1 ty27 (F.t 64 rfl) (H.holds 3501 _ rfl)) fun a F => ?_
  refine lp rfl ?_
  refine w_call F (x_enter Tryz.func42 (by kernel_rfl) rfl (by simp only [bM, F.t 65 rfl] <;> rfl)) (refNum_calls _ ((H.rd 3001 rfl)) (gb3 hbf)) rfl rfl ?_
  rintro _ w ⟨rfl, hm_⟩; refine ⟨_, rfl, ?_⟩; clear F; intro a F; have H := H.same hm_
  refine la F rfl (x_move (F.t 66 rfl)) fun a F => ?_
  refine la F rfl (x_extract (F.t 61 rfl) rfl) fun a F => ?_
  refine la F rfl (x_extract (F.t 61 rfl) rfl) fun a F => ?_
  refine la F rfl (x_assign (F.t 67 rfl)) fun a F => ?_
  refine la F rfl (x_assign (F.t 68 rfl)) fun a F => ?_
  refine wn (hK15 _ _ ?_)
  refine sr fun _ hK16 => ?_
  obtain ⟨fA4, fc4, hfr4, hf4_0, hf4_1, hfw4⟩ := Rd.fld ((H.rd 19 rfl)) (gf_some (xs := dl) (i := 4) (by omega) (by omega))
  have H := H.subrd 19 rfl 4001 hfr4 (fun _ h => h)
  have H := H.subcels 19 rfl 4499 hfw4 (Rd.inok ((H.rd 19 rfl)) (by omega) _)
  have H := H.subcel 19 rfl 4500 hf4_0 (Rd.inok ((H.rd 19 rfl)) (by omega) _)
  have H := H.subcel 19 rfl 4501 hf4_1 (Rd.inok ((H.rd 19 rfl)) (by omega) _)
  refine la F rfl (x_move (F.t 4 rfl)) fun a F => ?_
  refine la F rfl (x_iaddr_A Tryz.underlying60 ty57 ((H.rd 19 rfl)) (F.t 70 rfl) rfl (by omega) (by omega) _) fun a F => ?_
  refine la F rfl (x_faddrA ((H.rd 19 rfl)) (by omega) _ Tryz.underlying57 rfl ty27 (by decide) (F.t 71 rfl) rfl) fun a F => ?_
  refine la F rfl (x_load1 ty27 (F.t 72 rfl) (H.holds 4501 _ rfl)) fun a F => ?_
  refine lp rfl ?_
  refine w_call F (x_enter Tryz.func42 (by kernel_rfl) rfl (by simp only [bM, F.t 73 rfl] <;> rfl)) (refNum_calls _ ((H.rd 4001 rfl)) (gb4 hbf)) rfl rfl ?_
  rintro _ w ⟨rfl, hm_⟩; refine ⟨_, rfl, ?_⟩; clear F; intro a F; have H := H.same hm_
  refine la F rfl (x_move (F.t 74 rfl)) fun a F => ?_
  refine la F rfl (x_extract (F.t 69 rfl) rfl) fun a F => ?_
  refine la F rfl (x_extract (F.t 69 rfl) rfl) fun a F => ?_
  refine la F rfl (x_assign (F.t 75 rfl)) fun a F => ?_
  refine la F rfl (x_assign (F.t 76 rfl)) fun a F => ?_
  refine wn (hK16 _ _ ?_)
  refine sr fun _ hK17 => ?_
  obtain ⟨fA5, fc5, hfr5, hf5_0, hf5_1, hfw5⟩ := Rd.fld ((H.rd 19 rfl)) (gf_some (xs := dl) (i := 5) (by omega) (by omega))
  have H := H.subrd 19 rfl 5001 hfr5 (fun _ h => h)
  have H := H.subcels 19 rfl 5499 hfw5 (Rd.inok ((H.rd 19 rfl)) (by omega) _)
  have H := H.subcel 19 rfl 5500 hf5_0 (Rd.inok ((H.rd 19 rfl)) (by omega) _)
  have H := H.subcel 19 rfl 5501 hf5_1 (Rd.inok ((H.rd 19 rfl)) (by omega) _)
  refine la F rfl (x_move (F.t 4 rfl)) fun a F => ?_
  refine la F rfl (x_iaddr_A Tryz.underlying60 ty57 ((H.rd 19 rfl)) (F.t 78 rfl) rfl (by omega) (by omega) _) fun a F => ?_
  refine la F rfl (x_faddrA ((H.rd 19 rfl)) (by omega) _ Tryz.underlying57 rfl ty27 (by decide) (F.t 79 rfl) rfl) fun a F => ?_
  refine la F rfl (x_load1 ty27 (F.t 80 rfl) (H.holds 5501 _ rfl)) fun a F => ?_
  refine lp rfl ?_
  refine w_call F (x_enter Tryz.func77 (by kernel_rfl) rfl (by simp only [bM, F.t 81 rfl] <;> rfl)) (radec_calls _ ((H.rd 5001 rfl)) (gb5 hbf)) rfl rfl ?_
  rintro _ w ⟨vr82, rfl, hm_, hr_⟩; refine ⟨_, rfl, ?_⟩; clear F; intro a F; have H := Hp.rowOut H 82 hm_ hr_; obtain ⟨Ar82, cr82, rfl⟩ := (H.row 82 rfl).form
  refine la F rfl (x_move (F.t 82 rfl)) fun a F => ?_
  refine la F rfl (x_extract (F.t 77 rfl) rfl) fun a F => ?_
  refine la F rfl (x_extract (F.t 77 rfl) rfl) fun a F => ?_
  refine la F rfl (x_assign (F.t 83 rfl)) fun a F => ?_
  refine la F rfl (x_assign (F.t 84 rfl)) fun a F => ?_
  refine wn (hK17 _ _ ?_)
  refine wp_seq_k fun _ hK18 => ?_
  refine sr fun _ hK19 => ?_
  refine la F rfl (x_move (F.t 8 rfl)) fun a F => ?_
  refine la F rfl (x_not (F.t 85 rfl)) fun a F => ?_
  refine la F rfl (x_move (F.t 86 rfl)) fun a F => ?_
  refine split_bool F 87 rfl (fun hb87 => ?_) (fun hb87 => ?_)
  ·have hc87 := hb87; try simp only [bL] at hc87
   have hz : NoC bs := noC_shape hdl (fun hq => by obtain ⟨_, q2, q3, q4, q5, q6⟩ := hq.tim hc48; first | omega | (simp [q2, q3, q4] at hc87; done) | exact absurd q5 hc87 | (simp [q2, q3, q4] at hc36; done) | exact absurd q5 hc36 | (simp [q2, q3, q4] at hc29; done) | exact absurd q5 hc29)
   refine los F hb87 rfl fun a F => ?_
   refine los F hb87 rfl fun a F => ?_
   refine la F rfl (x_pickT (F.t 87 rfl) hb87 rfl) fun a F => ?_
   refine la F rfl (x_move (F.t 90 rfl)) fun a F => ?_
   refine lo F rfl fun a F => ?_
   refine lo F rfl fun a F => ?_
   refine la F rfl (x_pickT (F.t 91 rfl) rfl rfl) fun a F => ?_
   refine la F rfl (x_move (F.t 94 rfl)) fun a F => ?_
   refine lo F rfl fun a F => ?_
   refine lo F rfl fun a F => ?_
   refine la F rfl (x_pickT (F.t 95 rfl) rfl rfl) fun a F => ?_
   refine la F rfl (x_move (F.t 98 rfl)) fun a F => ?_
   refine lo F rfl fun a F => ?_
   refine lo F rfl fun a F => ?_
   refine la F rfl (x_pickT (F.t 99 rfl) rfl rfl) fun a F => ?_
   refine wn (hK19 _ _ ?_)
   refine wp_cond_true (F.t 102 rfl) ?_
   refine sr fun _ hK20 => ?_
   refine la F rfl (x_buildS (cells := #[.int .i64 0, .string (strOfNums []), .string (strOfNums []), .string (strOfNums []), .int .i64 0, .int .u64 0, .int .u64 0, .slice none 0 0]) (places := #[(0, 1), (1, 1), (2, 1), (3, 5)]) Tryz.underlying66 ty66 (by kernel_rfl) Array.map_empty rfl) fun a F => ?_
   refine lp rfl ?_
   refine w_storeA 2 H ty66 rfl (F.t 2 rfl) (F.t 103 rfl) rfl (by simp [Value.cells, Value.oneCell']) rfl ?_
   clear H; intro w H
   refine la F rfl (x_assign rfl) fun a F => ?_
   refine wn (hK20 _ _ ?_)
   refine wp_ret ?_
   try simp only [Exit.then, Exit.inBlock]
   exact fin_ret F (resct F rfl rfl rfl (H.at 2 rfl) ty66 rfl) ⟨⟨0, [], [], ⟨[], 0, 0, 0, []⟩⟩, none, 0, 12, rfl, H.mods, RowOut.nil _ _ _ _, DecC.no hz⟩
  have hc87 := hb87; try simp only [bL] at hc87
  refine lgs F hb87 rfl (x_move (F.t 10 rfl)) fun a F => ?_
  refine lgs F hb87 rfl (x_not (F.t 88 rfl)) fun a F => ?_
  refine la F rfl (x_pickF (F.t 87 rfl) hb87 (F.t 89 rfl)) fun a F => ?_
  refine la F rfl (x_move (F.t 90 rfl)) fun a F => ?_
  refine split_bool F 91 rfl (fun hb91 => ?_) (fun hb91 => ?_)
  ·have hc91 := hb91; try simp only [bL] at hc91
   have hz : NoC bs := noC_shape hdl (fun hq => by obtain ⟨_, q2, q3, q4, q5, q6⟩ := hq.tim hc48; first | omega | (simp [q2, q3, q4] at hc91; done) | exact absurd q5 hc91 | (simp [q2, q3, q4] at hc87; done) | exact absurd q5 hc87 | (simp [q2, q3, q4] at hc36; done) | exact absurd q5 hc36 | (simp [q2, q3, q4] at hc29; done) | exact absurd q5 hc29)
   refine los F hb91 rfl fun a F => ?_
   refine los F hb91 rfl fun a F => ?_
   refine la F rfl (x_pickT (F.t 91 rfl) hb91 rfl) fun a F => ?_
   refine la F rfl (x_move (F.t 94 rfl)) fun a F => ?_
   refine lo F rfl fun a F => ?_
   refine lo F rfl fun a F => ?_
   refine la F rfl (x_pickT (F.t 95 rfl) rfl rfl) fun a F => ?_
   refine la F rfl (x_move (F.t 98 rfl)) fun a F => ?_
   refine lo F rfl fun a F => ?_
   refine lo F rfl fun a F => ?_
   refine la F rfl (x_pickT (F.t 99 rfl) rfl rfl) fun a F => ?_
   refine wn (hK19 _ _ ?_)
   refine wp_cond_true (F.t 102 rfl) ?_
   refine sr fun _ hK21 => ?_
   refine la F rfl (x_buildS (cells := #[.int .i64 0, .string (strOfNums []), .string (strOfNums []), .string (strOfNums []), .int .i64 0, .int .u64 0, .int .u64 0, .slice none 0 0]) (places := #[(0, 1), (1, 1), (2, 1), (3, 5)]) Tryz.underlying66 ty66 (by kernel_rfl) Array.map_empty rfl) fun a F => ?_
   refine lp rfl ?_
   refine w_storeA 2 H ty66 rfl (F.t 2 rfl) (F.t 103 rfl) rfl (by simp [Value.cells, Value.oneCell']) rfl ?_
   clear H; intro w H
   refine la F rfl (x_assign rfl) fun a F => ?_
   refine wn (hK21 _ _ ?_)
   refine wp_ret ?_
   try simp only [Exit.then, Exit.inBlock]
   exact fin_ret F (resct F rfl rfl rfl (H.at 2 rfl) ty66 rfl) ⟨⟨0, [], [], ⟨[], 0, 0, 0, []⟩⟩, none, 0, 12, rfl, H.mods, RowOut.nil _ _ _ _, DecC.no hz⟩
  have hc91 := hb91; try simp only [bL] at hc91
  refine lgs F hb91 rfl (x_move (F.t 12 rfl)) fun a F => ?_
  refine lgs F hb91 rfl (x_not (F.t 92 rfl)) fun a F => ?_
  refine la F rfl (x_pickF (F.t 91 rfl) hb91 (F.t 93 rfl)) fun a F => ?_
  refine la F rfl (x_move (F.t 94 rfl)) fun a F => ?_
  refine split_bool F 95 rfl (fun hb95 => ?_) (fun hb95 => ?_)
  ·have hc95 := hb95; try simp only [bL] at hc95
   have hz : NoC bs := noC_shape hdl (fun hq => by obtain ⟨_, q2, q3, q4, q5, q6⟩ := hq.tim hc48; first | omega | (simp [q2, q3, q4] at hc95; done) | exact absurd q5 hc95 | (simp [q2, q3, q4] at hc91; done) | exact absurd q5 hc91 | (simp [q2, q3, q4] at hc87; done) | exact absurd q5 hc87 | (simp [q2, q3, q4] at hc36; done) | exact absurd q5 hc36 | (simp [q2, q3, q4] at hc29; done) | exact absurd q5 hc29)
   refine los F hb95 rfl fun a F => ?_
   refine los F hb95 rfl fun a F => ?_
   refine la F rfl (x_pickT (F.t 95 rfl) hb95 rfl) fun a F => ?_
   refine la F rfl (x_move (F.t 98 rfl)) fun a F => ?_
   refine lo F rfl fun a F => ?_
   refine lo F rfl fun a F => ?_
   refine la F rfl (x_pickT (F.t 99 rfl) rfl rfl) fun a F => ?_
   refine wn (hK19 _ _ ?_)
   refine wp_cond_true (F.t 102 rfl) ?_
   refine sr fun _ hK22 => ?_
   refine la F rfl (x_buildS (cells := #[.int .i64 0, .string (strOfNums []), .string (strOfNums []), .string (strOfNums []), .int .i64 0, .int .u64 0, .int .u64 0, .slice none 0 0]) (places := #[(0, 1), (1, 1), (2, 1), (3, 5)]) Tryz.underlying66 ty66 (by kernel_rfl) Array.map_empty rfl) fun a F => ?_
   refine lp rfl ?_
   refine w_storeA 2 H ty66 rfl (F.t 2 rfl) (F.t 103 rfl) rfl (by simp [Value.cells, Value.oneCell']) rfl ?_
   clear H; intro w H
   refine la F rfl (x_assign rfl) fun a F => ?_
   refine wn (hK22 _ _ ?_)
   refine wp_ret ?_
   try simp only [Exit.then, Exit.inBlock]
   exact fin_ret F (resct F rfl rfl rfl (H.at 2 rfl) ty66 rfl) ⟨⟨0, [], [], ⟨[], 0, 0, 0, []⟩⟩, none, 0, 12, rfl, H.mods, RowOut.nil _ _ _ _, DecC.no hz⟩
  have hc95 := hb95; try simp only [bL] at hc95
  refine lgs F hb95 rfl (x_move (F.t 14 rfl)) fun a F => ?_
  refine lgs F hb95 rfl (x_neq (F.t 96 rfl) rfl) fun a F => ?_
  refine la F rfl (x_pickF (F.t 95 rfl) hb95 (F.t 97 rfl)) fun a F => ?_
  refine la F rfl (x_move (F.t 98 rfl)) fun a F => ?_
  refine split_bool F 99 rfl (fun hb99 => ?_) (fun hb99 => ?_)
  ·have hc99 := hb99; try simp only [bL] at hc99
   have hz : NoC bs := noC_shape hdl (fun hq => by obtain ⟨_, q2, q3, q4, q5, q6⟩ := hq.tim hc48; first | omega | (simp [q2, q3, q4] at hc99; done) | exact absurd q5 hc99 | (simp [q2, q3, q4] at hc95; done) | exact absurd q5 hc95 | (simp [q2, q3, q4] at hc91; done) | exact absurd q5 hc91 | (simp [q2, q3, q4] at hc87; done) | exact absurd q5 hc87 | (simp [q2, q3, q4] at hc36; done) | exact absurd q5 hc36 | (simp [q2, q3, q4] at hc29; done) | exact absurd q5 hc29)
   refine los F hb99 rfl fun a F => ?_
   refine los F hb99 rfl fun a F => ?_
   refine la F rfl (x_pickT (F.t 99 rfl) hb99 rfl) fun a F => ?_
   refine wn (hK19 _ _ ?_)
   refine wp_cond_true (F.t 102 rfl) ?_
   refine sr fun _ hK23 => ?_
   refine la F rfl (x_buildS (cells := #[.int .i64 0, .string (strOfNums []), .string (strOfNums []), .string (strOfNums []), .int .i64 0, .int .u64 0, .int .u64 0, .slice none 0 0]) (places := #[(0, 1), (1, 1), (2, 1), (3, 5)]) Tryz.underlying66 ty66 (by kernel_rfl) Array.map_empty rfl) fun a F => ?_
   refine lp rfl ?_
   refine w_storeA 2 H ty66 rfl (F.t 2 rfl) (F.t 103 rfl) rfl (by simp [Value.cells, Value.oneCell']) rfl ?_
   clear H; intro w H
   refine la F rfl (x_assign rfl) fun a F => ?_
   refine wn (hK23 _ _ ?_)
   refine wp_ret ?_
   try simp only [Exit.then, Exit.inBlock]
   exact fin_ret F (resct F rfl rfl rfl (H.at 2 rfl) ty66 rfl) ⟨⟨0, [], [], ⟨[], 0, 0, 0, []⟩⟩, none, 0, 12, rfl, H.mods, RowOut.nil _ _ _ _, DecC.no hz⟩
  have hc99 := hb99; try simp only [bL] at hc99
  refine lgs F hb99 rfl (x_move (F.t 7 rfl)) fun a F => ?_
  refine lgs F hb99 rfl (x_gtr (F.t 100 rfl) rfl) fun a F => ?_
  refine la F rfl (x_pickF (F.t 99 rfl) hb99 (F.t 101 rfl)) fun a F => ?_
  refine wn (hK19 _ _ ?_)
  refine wp_cond_split (F.t 102 rfl) (fun hc102 => ?_) (fun hc102 => ?_)
  ·have hk102_6 := hc102; try simp only [bL] at hc102
   have hz : NoC bs := noC_shape hdl (fun hq => by obtain ⟨_, q2, q3, q4, q5, q6⟩ := hq.tim hc48; first | omega | (simp [q2, q3, q4] at hc102; done) | exact absurd q5 hc102 | (simp [q2, q3, q4] at hc99; done) | exact absurd q5 hc99 | (simp [q2, q3, q4] at hc95; done) | exact absurd q5 hc95 | (simp [q2, q3, q4] at hc91; done) | exact absurd q5 hc91 | (simp [q2, q3, q4] at hc87; done) | exact absurd q5 hc87 | (simp [q2, q3, q4] at hc36; done) | exact absurd q5 hc36 | (simp [q2, q3, q4] at hc29; done) | exact absurd q5 hc29)
   refine sr fun _ hK24 => ?_
   refine la F rfl (x_buildS (cells := #[.int .i64 0, .string (strOfNums []), .string (strOfNums []), .string (strOfNums []), .int .i64 0, .int .u64 0, .int .u64 0, .slice none 0 0]) (places := #[(0, 1), (1, 1), (2, 1), (3, 5)]) Tryz.underlying66 ty66 (by kernel_rfl) Array.map_empty rfl) fun a F => ?_
   refine lp rfl ?_
   refine w_storeA 2 H ty66 rfl (F.t 2 rfl) (F.t 103 rfl) rfl (by simp [Value.cells, Value.oneCell']) rfl ?_
   clear H; intro w H
   refine la F rfl (x_assign rfl) fun a F => ?_
   refine wn (hK24 _ _ ?_)
   refine wp_ret ?_
   try simp only [Exit.then, Exit.inBlock]
   exact fin_ret F (resct F rfl rfl rfl (H.at 2 rfl) ty66 rfl) ⟨⟨0, [], [], ⟨[], 0, 0, 0, []⟩⟩, none, 0, 12, rfl, H.mods, RowOut.nil _ _ _ _, DecC.no hz⟩
  have hk102_7 := hc102; try simp only [bL] at hc102
  refine wp_skip ?_
  refine hK18 _ _ ?_
  refine wp_region_lit ?_
  obtain ⟨fA6, fc6, hfr6, hf6_0, hf6_1, hfw6⟩ := Rd.fld ((H.rd 19 rfl)) (gf_some (xs := dl) (i := 1) (by omega) (by omega))
  have H := H.subrd 19 rfl 6001 hfr6 (fun _ h => h)
  have H := H.subcels 19 rfl 6499 hfw6 (Rd.inok ((H.rd 19 rfl)) (by omega) _)
  have H := H.subcel 19 rfl 6500 hf6_0 (Rd.inok ((H.rd 19 rfl)) (by omega) _)
  have H := H.subcel 19 rfl 6501 hf6_1 (Rd.inok ((H.rd 19 rfl)) (by omega) _)
  refine la F rfl (x_move (F.t 4 rfl)) fun a F => ?_
  refine la F rfl (x_iaddr_A Tryz.underlying60 ty57 ((H.rd 19 rfl)) (F.t 104 rfl) rfl (by omega) (by omega) _) fun a F => ?_
  refine la F rfl (x_faddrA ((H.rd 19 rfl)) (by omega) _ Tryz.underlying57 rfl ty27 (by decide) (F.t 105 rfl) rfl) fun a F => ?_
  refine la F rfl (x_load1 ty27 (F.t 106 rfl) (H.holds 6501 _ rfl)) fun a F => ?_
  refine la F rfl (x_b2s Tryz.underlying27 Tryz.underlying5 Tryz.underlying9 ((H.rd 6001 rfl)) (F.t 107 rfl)) fun a F => ?_
  refine la F rfl (x_move (F.t 7 rfl)) fun a F => ?_
  refine la F rfl (x_conv Tryz.underlying3 ⟨_, Tryz.underlying59⟩ (F.t 109 rfl) (w64 (by have := numV_range (gb2 hbf); omega) (by omega))) fun a F => ?_
  refine la F rfl (x_move (F.t 9 rfl)) fun a F => ?_
  refine la F rfl (x_move (F.t 11 rfl)) fun a F => ?_
  refine la F rfl (x_move (F.t 13 rfl)) fun a F => ?_
  refine la F rfl (x_buildS (cells := #[.string (strOfNums ((gf dl 1).2)), .int .i64 (numV (gf dl 2).2), .int .u64 (numV (gf dl 3).2), .int .u64 (numV (gf dl 4).2), .slice Ar82 ((adecR (gf dl 5).2).getD []).length cr82]) (places := #[(0, 1), (1, 1), (2, 1), (3, 1), (4, 1)]) Tryz.underlying64 ty64 (by kernel_rfl) (by simp only [bM, F.t 108 rfl, F.t 110 rfl, F.t 111 rfl, F.t 112 rfl, F.t 113 rfl] <;> rfl) rfl) fun a F => ?_
  refine la F rfl (x_faddr Tryz.underlying66 rfl ty64 (by decide) (F.t 6 rfl) rfl) fun a F => ?_
  refine lp rfl ?_
  refine w_store 6 H ty64 rfl (F.t 115 rfl) (F.t 114 rfl) rfl (by simp [Value.cells, Value.oneCell']) (by first | decide | exact Nat.le_of_ble_eq_true rfl) ?_
  clear H; intro w H
  refine wn (hK9 _ _ ?_)
  refine sr fun _ hK25 => ?_
  have H : Hp (fun _ => False) w0 _ [(901, .rd_ (.int .u8) A bs c (fun k => k < w0.heap.size)), (2, .blk b2 (.cells #[.int .i64 0, .string (strOfNums []), .string (strOfNums []), .string (strOfNums []), .int .i64 0, .int .u64 0, .int .u64 0, .slice none 0 0] 66 (0, 0))), (19, .rd_ FE Ar19 dl cr19 (fun kb => okr19 kb ∨ (Value.slice Ar19 dl.length cr19).ownBlock = some kb)), (1001, .rd_ (.int .u8) (fA1) (gf dl 0).2 fc1 (fun kb => okr19 kb ∨ (Value.slice Ar19 dl.length cr19).ownBlock = some kb)), (1499, .cels (adr Ar19 (Int.toNat 0 * 2)) #[.int .i64 (gf dl 0).1, .slice fA1 (gf dl 0).2.length fc1]), (1500, .cel (adr Ar19 (Int.toNat 0 * 2)) (.int .i64 (gf dl 0).1)), (1501, .cel (adr Ar19 (Int.toNat 0 * 2 + 1)) (.slice fA1 (gf dl 0).2.length fc1)), (6, .blk b6 (.cells #[.int .i64 (gi (gf dl 0).2 0), .string (strOfNums []), .string (strOfNums []), .string (strOfNums ((gf dl 1).2)), .int .i64 (numV (gf dl 2).2), .int .u64 (numV (gf dl 3).2), .int .u64 (numV (gf dl 4).2), .slice Ar82 ((adecR (gf dl 5).2).getD []).length cr82] 66 (0, 0))), (2001, .rd_ (.int .u8) (fA2) (gf dl 2).2 fc2 (fun kb => okr19 kb ∨ (Value.slice Ar19 dl.length cr19).ownBlock = some kb)), (2499, .cels (adr Ar19 (Int.toNat 2 * 2)) #[.int .i64 (gf dl 2).1, .slice fA2 (gf dl 2).2.length fc2]), (2500, .cel (adr Ar19 (Int.toNat 2 * 2)) (.int .i64 (gf dl 2).1)), (2501, .cel (adr Ar19 (Int.toNat 2 * 2 + 1)) (.slice fA2 (gf dl 2).2.length fc2)), (3001, .rd_ (.int .u8) (fA3) (gf dl 3).2 fc3 (fun kb => okr19 kb ∨ (Value.slice Ar19 dl.length cr19).ownBlock = some kb)), (3499, .cels (adr Ar19 (Int.toNat 3 * 2)) #[.int .i64 (gf dl 3).1, .slice fA3 (gf dl 3).2.length fc3]), (3500, .cel (adr Ar19 (Int.toNat 3 * 2)) (.int .i64 (gf dl 3).1)), (3501, .cel (adr Ar19 (Int.toNat 3 * 2 + 1)) (.slice fA3 (gf dl 3).2.length fc3)), (4001, .rd_ (.int .u8) (fA4) (gf dl 4).2 fc4 (fun kb => okr19 kb ∨ (Value.slice Ar19 dl.length cr19).ownBlock = some kb)), (4499, .cels (adr Ar19 (Int.toNat 4 * 2)) #[.int .i64 (gf dl 4).1, .slice fA4 (gf dl 4).2.length fc4]), (4500, .cel (adr Ar19 (Int.toNat 4 * 2)) (.int .i64 (gf dl 4).1)), (4501, .cel (adr Ar19 (Int.toNat 4 * 2 + 1)) (.slice fA4 (gf dl 4).2.length fc4)), (5001, .rd_ (.int .u8) (fA5) (gf dl 5).2 fc5 (fun kb => okr19 kb ∨ (Value.slice Ar19 dl.length cr19).ownBlock = some kb)), (5499, .cels (adr Ar19 (Int.toNat 5 * 2)) #[.int .i64 (gf dl 5).1, .slice fA5 (gf dl 5).2.length fc5]), (5500, .cel (adr Ar19 (Int.toNat 5 * 2)) (.int .i64 (gf dl 5).1)), (5501, .cel (adr Ar19 (Int.toNat 5 * 2 + 1)) (.slice fA5 (gf dl 5).2.length fc5)), (82, .row StE 91 (.slice Ar82 ((adecR (gf dl 5).2).getD []).length cr82) ((adecR (gf dl 5).2).getD []) (fun _ => False)), (6001, .rd_ (.int .u8) (fA6) (gf dl 1).2 fc6 (fun kb => okr19 kb ∨ (Value.slice Ar19 dl.length cr19).ownBlock = some kb)), (6499, .cels (adr Ar19 (Int.toNat 1 * 2)) #[.int .i64 (gf dl 1).1, .slice fA6 (gf dl 1).2.length fc6]), (6500, .cel (adr Ar19 (Int.toNat 1 * 2)) (.int .i64 (gf dl 1).1)), (6501, .cel (adr Ar19 (Int.toNat 1 * 2 + 1)) (.slice fA6 (gf dl 1).2.length fc6))] := H.sub _ (sub_cons (sub_cons (sub_cons (sub_cons (sub_cons (sub_cons (sub_cons (sub_cons (sub_cons (sub_cons (sub_cons (sub_cons (sub_cons (sub_cons (sub_cons (sub_cons (sub_cons (sub_cons (sub_cons (sub_cons (sub_cons (sub_cons (sub_cons (sub_cons (sub_cons (sub_cons (sub_cons (sub_cons (sub_cons (sub_nil _) 6501 rfl) 6500 rfl) 6499 rfl) 6001 rfl) 82 rfl) 5501 rfl) 5500 rfl) 5499 rfl) 5001 rfl) 4501 rfl) 4500 rfl) 4499 rfl) 4001 rfl) 3501 rfl) 3500 rfl) 3499 rfl) 3001 rfl) 2501 rfl) 2500 rfl) 2499 rfl) 2001 rfl) 6 rfl) 1501 rfl) 1500 rfl) 1499 rfl) 1001 rfl) 19 rfl) 2 rfl) 901 rfl)
  have hcc : rcOf dl = (⟨(gi (gf dl 0).2 0), [], [], rtOf dl⟩ : ChangeD) := by unfold rcOf; rw [if_pos (show  rcK dl = 3 from hc48)] <;> rfl
  refine la F rfl (x_loadn ty66 (F.t 6 rfl) rfl (blk_whole (H.at 6 rfl))) fun a F => ?_
  refine lp rfl ?_
  refine w_call F (x_enter Tryz.func33 (by kernel_rfl) rfl (by simp only [bM, F.t 132 rfl] <;> rfl)) (rencC_calls (c := (⟨(gi (gf dl 0).2 0), [], [], rtOf dl⟩ : ChangeD)) _ (Row.rd (ok' := fun k_ => (fun _ => False) k_ ∨ (.slice Ar82 ((adecR (gf dl 5).2).getD []).length cr82 : Value).ownBlock = some k_) (H.row 82 rfl) (fun _ hk_ _ => .inl hk_) (fun _ hk_ => .inr hk_)) (hcc ▸ rcOf_B hbf (fun h3 => by omega))) rfl rfl ?_
  rintro _ w ⟨vr133, rfl, hm_, hr_⟩; refine ⟨_, rfl, ?_⟩; clear F; intro a F; have H := Hp.rowOut H 133 hm_ hr_; obtain ⟨Ar133, cr133, rfl⟩ := (H.row 133 rfl).form
  refine la F rfl (x_move (F.t 133 rfl)) fun a F => ?_
  refine la F rfl (x_extract (F.t 131 rfl) rfl) fun a F => ?_
  refine la F rfl (x_extract (F.t 131 rfl) rfl) fun a F => ?_
  refine la F rfl (x_assign (F.t 134 rfl)) fun a F => ?_
  refine la F rfl (x_assign (F.t 135 rfl)) fun a F => ?_
  refine wn (hK25 _ _ ?_)
  refine wp_seq_k fun _ hK26 => ?_
  refine sr fun _ hK27 => ?_
  have hBy := encC_byte (hcc ▸ rcOf_B hbf (fun h3 => by omega))
  refine la F rfl (x_move (F.t 16 rfl)) fun a F => ?_
  refine la F rfl (x_neq (F.t 136 rfl) rfl) fun a F => ?_
  refine la F rfl (x_move (F.t 137 rfl)) fun a F => ?_
  refine split_bool F 138 rfl (fun hb138 => ?_) (fun hb138 => ?_)
  ·have hc138 := hb138; try simp only [bL] at hc138
   have hz : NoC bs := noC_rend hdl (fun h => by rw [hcc] at h; exact hc138 h.1)
   refine los F hb138 rfl fun a F => ?_
   refine los F hb138 rfl fun a F => ?_
   refine los F hb138 rfl fun a F => ?_
   refine los F hb138 rfl fun a F => ?_
   refine los F hb138 rfl fun a F => ?_
   refine la F rfl (x_pickT (F.t 138 rfl) hb138 rfl) fun a F => ?_
   refine wn (hK27 _ _ ?_)
   refine wp_cond_true (F.t 144 rfl) ?_
   refine sr fun _ hK28 => ?_
   refine la F rfl (x_buildS (cells := #[.int .i64 0, .string (strOfNums []), .string (strOfNums []), .string (strOfNums []), .int .i64 0, .int .u64 0, .int .u64 0, .slice none 0 0]) (places := #[(0, 1), (1, 1), (2, 1), (3, 5)]) Tryz.underlying66 ty66 (by kernel_rfl) Array.map_empty rfl) fun a F => ?_
   refine lp rfl ?_
   refine w_storeA 2 H ty66 rfl (F.t 2 rfl) (F.t 145 rfl) rfl (by simp [Value.cells, Value.oneCell']) rfl ?_
   clear H; intro w H
   refine la F rfl (x_assign rfl) fun a F => ?_
   refine wn (hK28 _ _ ?_)
   refine wp_ret ?_
   try simp only [Exit.then, Exit.inBlock]
   exact fin_ret F (resct F rfl rfl rfl (H.at 2 rfl) ty66 rfl) ⟨⟨0, [], [], ⟨[], 0, 0, 0, []⟩⟩, none, 0, 12, rfl, H.mods, RowOut.nil _ _ _ _, DecC.no hz⟩
  have hc138 := hb138; try simp only [bL] at hc138
  refine lgs F hb138 rfl (x_move (F.t 15 rfl)) fun a F => ?_
  refine lgs F hb138 rfl (x_b2s Tryz.underlying27 Tryz.underlying5 Tryz.underlying9 (Row.rd (ok' := fun k_ => (fun _ => False) k_ ∨ (.slice Ar133 (encC (⟨(gi (gf dl 0).2 0), [], [], rtOf dl⟩ : ChangeD)).length cr133 : Value).ownBlock = some k_) (H.row 133 rfl) (fun _ hk_ _ => .inl hk_) (fun _ hk_ => .inr hk_)) (F.t 139 rfl)) fun a F => ?_
  refine lgs F hb138 rfl (x_move (F.t 0 rfl)) fun a F => ?_
  refine lgs F hb138 rfl (x_b2s Tryz.underlying27 Tryz.underlying5 Tryz.underlying9 ((H.rd 901 rfl)) (F.t 141 rfl)) fun a F => ?_
  refine lgs F hb138 rfl (x_nen (xs := (encC (⟨(gi (gf dl 0).2 0), [], [], rtOf dl⟩ : ChangeD))) (ys := bs) (F.t 140 rfl) (F.t 142 rfl) hBy hby) fun a F => ?_
  refine la F rfl (x_pickF (F.t 138 rfl) hb138 (F.t 143 rfl)) fun a F => ?_
  refine wn (hK27 _ _ ?_)
  refine wp_cond_split (F.t 144 rfl) (fun hc144 => ?_) (fun hc144 => ?_)
  ·have hk144_8 := hc144; try simp only [bL] at hc144
   have hz : NoC bs := noC_rend hdl (fun h => by rw [hcc] at h; exact hc144 h.2)
   refine sr fun _ hK29 => ?_
   refine la F rfl (x_buildS (cells := #[.int .i64 0, .string (strOfNums []), .string (strOfNums []), .string (strOfNums []), .int .i64 0, .int .u64 0, .int .u64 0, .slice none 0 0]) (places := #[(0, 1), (1, 1), (2, 1), (3, 5)]) Tryz.underlying66 ty66 (by kernel_rfl) Array.map_empty rfl) fun a F => ?_
   refine lp rfl ?_
   refine w_storeA 2 H ty66 rfl (F.t 2 rfl) (F.t 145 rfl) rfl (by simp [Value.cells, Value.oneCell']) rfl ?_
   clear H; intro w H
   refine la F rfl (x_assign rfl) fun a F => ?_
   refine wn (hK29 _ _ ?_)
   refine wp_ret ?_
   try simp only [Exit.then, Exit.inBlock]
   exact fin_ret F (resct F rfl rfl rfl (H.at 2 rfl) ty66 rfl) ⟨⟨0, [], [], ⟨[], 0, 0, 0, []⟩⟩, none, 0, 12, rfl, H.mods, RowOut.nil _ _ _ _, DecC.no hz⟩
  have hk144_9 := hc144; try simp only [bL] at hc144
  refine wp_skip ?_
  refine hK26 _ _ ?_
  refine sr fun _ hK30 => ?_
  refine la F rfl (x_loadn ty66 (F.t 6 rfl) rfl (blk_whole (H.at 6 rfl))) fun a F => ?_
  refine lp rfl ?_
  refine w_storeA 2 H ty66 rfl (F.t 2 rfl) (F.t 146 rfl) rfl (by simp [Value.cells, Value.oneCell']) rfl ?_
  clear H; intro w H
  refine la F rfl (x_assign rfl) fun a F => ?_
  refine wn (hK30 _ _ ?_)
  refine wp_ret ?_
  try simp only [Exit.then, Exit.inBlock]
  have hE : encCE (⟨(gi (gf dl 0).2 0), [], [], rtOf dl⟩ : ChangeD) = 0 := by first | exact hc144 | exact hc138 | exact hc102 | exact hc99 | exact hc95 | exact hc91 | exact hc87 | exact hc51 | exact hc48 | exact hc36 | exact hc29 | exact hc24
  have hX : encC (⟨(gi (gf dl 0).2 0), [], [], rtOf dl⟩ : ChangeD) = bs := by first | exact hc144 | exact hc138 | exact hc102 | exact hc99 | exact hc95 | exact hc91 | exact hc87 | exact hc51 | exact hc48 | exact hc36 | exact hc29 | exact hc24
  exact fin_ret F (resct F rfl rfl rfl (H.at 2 rfl) ty66 rfl) ⟨(⟨(gi (gf dl 0).2 0), [], [], rtOf dl⟩ : ChangeD), Ar82, cr82, 0, rfl, H.mods, Hp.out H 82 rfl, ⟨(hcc ▸ rcOf_B hbf (fun h3 => by omega)), .inl ⟨rfl, encCE0 hE, hX⟩⟩⟩
 have hk48_10 := hc48; try simp only [bL] at hc48
 refine sr fun _ hK31 => ?_
 obtain ⟨fA6, fc6, hfr6, hf6_0, hf6_1, hfw6⟩ := Rd.fld ((H.rd 19 rfl)) (gf_some (xs := dl) (i := 1) (by omega) (by omega))
 have H := H.subrd 19 rfl 6001 hfr6 (fun _ h => h)
 have H := H.subcels 19 rfl 6499 hfw6 (Rd.inok ((H.rd 19 rfl)) (by omega) _)
 have H := H.subcel 19 rfl 6500 hf6_0 (Rd.inok ((H.rd 19 rfl)) (by omega) _)
 have H := H.subcel 19 rfl 6501 hf6_1 (Rd.inok ((H.rd 19 rfl)) (by omega) _)
 refine la F rfl (x_move (F.t 4 rfl)) fun a F => ?_
 refine la F rfl (x_iaddr_A Tryz.underlying60 ty57 ((H.rd 19 rfl)) (F.t 116 rfl) rfl (by omega) (by omega) _) fun a F => ?_
 refine la F rfl (x_faddrA ((H.rd 19 rfl)) (by omega) _ Tryz.underlying57 rfl ty27 (by decide) (F.t 117 rfl) rfl) fun a F => ?_
 refine la F rfl (x_load1 ty27 (F.t 118 rfl) (H.holds 6501 _ rfl)) fun a F => ?_
 refine la F rfl (x_b2s Tryz.underlying27 Tryz.underlying5 Tryz.underlying9 ((H.rd 6001 rfl)) (F.t 119 rfl)) fun a F => ?_
 refine la F rfl (x_faddr Tryz.underlying66 rfl ty9 (by decide) (F.t 6 rfl) rfl) fun a F => ?_
 refine lp rfl ?_
 refine w_store 6 H ty9 rfl (F.t 121 rfl) (F.t 120 rfl) rfl (one1 rfl rfl) (by first | decide | exact Nat.le_of_ble_eq_true rfl) ?_
 clear H; intro w H
 refine wn (hK31 _ _ ?_)
 refine sr fun _ hK32 => ?_
 refine la F rfl (x_move (F.t 4 rfl)) fun a F => ?_
 refine la F rfl (x_len_slice Tryz.underlying60 (F.t 122 rfl)) fun a F => ?_
 refine la F rfl (x_gtr (F.t 123 rfl) rfl) fun a F => ?_
 refine wn (hK32 _ _ ?_)
 refine wp_cond_split (F.t 124 rfl) (fun hc124 => ?_) (fun hc124 => ?_)
 ·have hk124_11 := hc124; try simp only [bL] at hc124
  refine wp_region_lit ?_
  obtain ⟨fA7, fc7, hfr7, hf7_0, hf7_1, hfw7⟩ := Rd.fld ((H.rd 19 rfl)) (gf_some (xs := dl) (i := 2) (by omega) (by omega))
  have H := H.subrd 19 rfl 7001 hfr7 (fun _ h => h)
  have H := H.subcels 19 rfl 7499 hfw7 (Rd.inok ((H.rd 19 rfl)) (by omega) _)
  have H := H.subcel 19 rfl 7500 hf7_0 (Rd.inok ((H.rd 19 rfl)) (by omega) _)
  have H := H.subcel 19 rfl 7501 hf7_1 (Rd.inok ((H.rd 19 rfl)) (by omega) _)
  refine la F rfl (x_move (F.t 4 rfl)) fun a F => ?_
  refine la F rfl (x_iaddr_A Tryz.underlying60 ty57 ((H.rd 19 rfl)) (F.t 125 rfl) rfl (by omega) (by omega) _) fun a F => ?_
  refine la F rfl (x_faddrA ((H.rd 19 rfl)) (by omega) _ Tryz.underlying57 rfl ty27 (by decide) (F.t 126 rfl) rfl) fun a F => ?_
  refine la F rfl (x_load1 ty27 (F.t 127 rfl) (H.holds 7501 _ rfl)) fun a F => ?_
  refine la F rfl (x_b2s Tryz.underlying27 Tryz.underlying5 Tryz.underlying9 ((H.rd 7001 rfl)) (F.t 128 rfl)) fun a F => ?_
  refine la F rfl (x_faddr Tryz.underlying66 rfl ty9 (by decide) (F.t 6 rfl) rfl) fun a F => ?_
  refine lp rfl ?_
  refine w_store 6 H ty9 rfl (F.t 130 rfl) (F.t 129 rfl) rfl (one1 rfl rfl) (by first | decide | exact Nat.le_of_ble_eq_true rfl) ?_
  clear H; intro w H
  refine wn (hK9 _ _ ?_)
  refine sr fun _ hK33 => ?_
  have H : Hp (fun _ => False) w0 _ [(901, .rd_ (.int .u8) A bs c (fun k => k < w0.heap.size)), (2, .blk b2 (.cells #[.int .i64 0, .string (strOfNums []), .string (strOfNums []), .string (strOfNums []), .int .i64 0, .int .u64 0, .int .u64 0, .slice none 0 0] 66 (0, 0))), (19, .rd_ FE Ar19 dl cr19 (fun kb => okr19 kb ∨ (Value.slice Ar19 dl.length cr19).ownBlock = some kb)), (1001, .rd_ (.int .u8) (fA1) (gf dl 0).2 fc1 (fun kb => okr19 kb ∨ (Value.slice Ar19 dl.length cr19).ownBlock = some kb)), (1499, .cels (adr Ar19 (Int.toNat 0 * 2)) #[.int .i64 (gf dl 0).1, .slice fA1 (gf dl 0).2.length fc1]), (1500, .cel (adr Ar19 (Int.toNat 0 * 2)) (.int .i64 (gf dl 0).1)), (1501, .cel (adr Ar19 (Int.toNat 0 * 2 + 1)) (.slice fA1 (gf dl 0).2.length fc1)), (6, .blk b6 (.cells #[.int .i64 (gi (gf dl 0).2 0), .string (strOfNums ((gf dl 1).2)), .string (strOfNums ((gf dl 2).2)), .string (strOfNums []), .int .i64 0, .int .u64 0, .int .u64 0, .slice none 0 0] 66 (0, 0))), (6001, .rd_ (.int .u8) (fA6) (gf dl 1).2 fc6 (fun kb => okr19 kb ∨ (Value.slice Ar19 dl.length cr19).ownBlock = some kb)), (6499, .cels (adr Ar19 (Int.toNat 1 * 2)) #[.int .i64 (gf dl 1).1, .slice fA6 (gf dl 1).2.length fc6]), (6500, .cel (adr Ar19 (Int.toNat 1 * 2)) (.int .i64 (gf dl 1).1)), (6501, .cel (adr Ar19 (Int.toNat 1 * 2 + 1)) (.slice fA6 (gf dl 1).2.length fc6)), (7001, .rd_ (.int .u8) (fA7) (gf dl 2).2 fc7 (fun kb => okr19 kb ∨ (Value.slice Ar19 dl.length cr19).ownBlock = some kb)), (7499, .cels (adr Ar19 (Int.toNat 2 * 2)) #[.int .i64 (gf dl 2).1, .slice fA7 (gf dl 2).2.length fc7]), (7500, .cel (adr Ar19 (Int.toNat 2 * 2)) (.int .i64 (gf dl 2).1)), (7501, .cel (adr Ar19 (Int.toNat 2 * 2 + 1)) (.slice fA7 (gf dl 2).2.length fc7))] := H.sub _ (sub_cons (sub_cons (sub_cons (sub_cons (sub_cons (sub_cons (sub_cons (sub_cons (sub_cons (sub_cons (sub_cons (sub_cons (sub_cons (sub_cons (sub_cons (sub_cons (sub_nil _) 7501 rfl) 7500 rfl) 7499 rfl) 7001 rfl) 6501 rfl) 6500 rfl) 6499 rfl) 6001 rfl) 6 rfl) 1501 rfl) 1500 rfl) 1499 rfl) 1001 rfl) 19 rfl) 2 rfl) 901 rfl)
  have hcc : rcOf dl = (⟨(gi (gf dl 0).2 0), (gf dl 1).2, (gf dl 2).2, zTT⟩ : ChangeD) := by unfold rcOf; rw [if_neg (show ¬ rcK dl = 3 from hc48)]; unfold rcV; rw [if_pos hc124] <;> rfl
  refine la F rfl (x_loadn ty66 (F.t 6 rfl) rfl (blk_whole (H.at 6 rfl))) fun a F => ?_
  refine lp rfl ?_
  refine w_call F (x_enter Tryz.func33 (by kernel_rfl) rfl (by simp only [bM, F.t 132 rfl] <;> rfl)) (rencC_calls (c := (⟨(gi (gf dl 0).2 0), (gf dl 1).2, (gf dl 2).2, zTT⟩ : ChangeD)) _ (Rd.nil StE _ (fun _ => False)) (hcc ▸ rcOf_B hbf (fun h3 => absurd h3 hc48))) rfl rfl ?_
  rintro _ w ⟨vr133, rfl, hm_, hr_⟩; refine ⟨_, rfl, ?_⟩; clear F; intro a F; have H := Hp.rowOut H 133 hm_ hr_; obtain ⟨Ar133, cr133, rfl⟩ := (H.row 133 rfl).form
  refine la F rfl (x_move (F.t 133 rfl)) fun a F => ?_
  refine la F rfl (x_extract (F.t 131 rfl) rfl) fun a F => ?_
  refine la F rfl (x_extract (F.t 131 rfl) rfl) fun a F => ?_
  refine la F rfl (x_assign (F.t 134 rfl)) fun a F => ?_
  refine la F rfl (x_assign (F.t 135 rfl)) fun a F => ?_
  refine wn (hK33 _ _ ?_)
  refine wp_seq_k fun _ hK34 => ?_
  refine sr fun _ hK35 => ?_
  have hBy := encC_byte (hcc ▸ rcOf_B hbf (fun h3 => absurd h3 hc48))
  refine la F rfl (x_move (F.t 16 rfl)) fun a F => ?_
  refine la F rfl (x_neq (F.t 136 rfl) rfl) fun a F => ?_
  refine la F rfl (x_move (F.t 137 rfl)) fun a F => ?_
  refine split_bool F 138 rfl (fun hb138 => ?_) (fun hb138 => ?_)
  ·have hc138 := hb138; try simp only [bL] at hc138
   have hz : NoC bs := noC_rend hdl (fun h => by rw [hcc] at h; exact hc138 h.1)
   refine los F hb138 rfl fun a F => ?_
   refine los F hb138 rfl fun a F => ?_
   refine los F hb138 rfl fun a F => ?_
   refine los F hb138 rfl fun a F => ?_
   refine los F hb138 rfl fun a F => ?_
   refine la F rfl (x_pickT (F.t 138 rfl) hb138 rfl) fun a F => ?_
   refine wn (hK35 _ _ ?_)
   refine wp_cond_true (F.t 144 rfl) ?_
   refine sr fun _ hK36 => ?_
   refine la F rfl (x_buildS (cells := #[.int .i64 0, .string (strOfNums []), .string (strOfNums []), .string (strOfNums []), .int .i64 0, .int .u64 0, .int .u64 0, .slice none 0 0]) (places := #[(0, 1), (1, 1), (2, 1), (3, 5)]) Tryz.underlying66 ty66 (by kernel_rfl) Array.map_empty rfl) fun a F => ?_
   refine lp rfl ?_
   refine w_storeA 2 H ty66 rfl (F.t 2 rfl) (F.t 145 rfl) rfl (by simp [Value.cells, Value.oneCell']) rfl ?_
   clear H; intro w H
   refine la F rfl (x_assign rfl) fun a F => ?_
   refine wn (hK36 _ _ ?_)
   refine wp_ret ?_
   try simp only [Exit.then, Exit.inBlock]
   exact fin_ret F (resct F rfl rfl rfl (H.at 2 rfl) ty66 rfl) ⟨⟨0, [], [], ⟨[], 0, 0, 0, []⟩⟩, none, 0, 12, rfl, H.mods, RowOut.nil _ _ _ _, DecC.no hz⟩
  have hc138 := hb138; try simp only [bL] at hc138
  refine lgs F hb138 rfl (x_move (F.t 15 rfl)) fun a F => ?_
  refine lgs F hb138 rfl (x_b2s Tryz.underlying27 Tryz.underlying5 Tryz.underlying9 (Row.rd (ok' := fun k_ => (fun _ => False) k_ ∨ (.slice Ar133 (encC (⟨(gi (gf dl 0).2 0), (gf dl 1).2, (gf dl 2).2, zTT⟩ : ChangeD)).length cr133 : Value).ownBlock = some k_) (H.row 133 rfl) (fun _ hk_ _ => .inl hk_) (fun _ hk_ => .inr hk_)) (F.t 139 rfl)) fun a F => ?_
  refine lgs F hb138 rfl (x_move (F.t 0 rfl)) fun a F => ?_
  refine lgs F hb138 rfl (x_b2s Tryz.underlying27 Tryz.underlying5 Tryz.underlying9 ((H.rd 901 rfl)) (F.t 141 rfl)) fun a F => ?_
  refine lgs F hb138 rfl (x_nen (xs := (encC (⟨(gi (gf dl 0).2 0), (gf dl 1).2, (gf dl 2).2, zTT⟩ : ChangeD))) (ys := bs) (F.t 140 rfl) (F.t 142 rfl) hBy hby) fun a F => ?_
  refine la F rfl (x_pickF (F.t 138 rfl) hb138 (F.t 143 rfl)) fun a F => ?_
  refine wn (hK35 _ _ ?_)
  refine wp_cond_split (F.t 144 rfl) (fun hc144 => ?_) (fun hc144 => ?_)
  ·have hk144_12 := hc144; try simp only [bL] at hc144
   have hz : NoC bs := noC_rend hdl (fun h => by rw [hcc] at h; exact hc144 h.2)
   refine sr fun _ hK37 => ?_
   refine la F rfl (x_buildS (cells := #[.int .i64 0, .string (strOfNums []), .string (strOfNums []), .string (strOfNums []), .int .i64 0, .int .u64 0, .int .u64 0, .slice none 0 0]) (places := #[(0, 1), (1, 1), (2, 1), (3, 5)]) Tryz.underlying66 ty66 (by kernel_rfl) Array.map_empty rfl) fun a F => ?_
   refine lp rfl ?_
   refine w_storeA 2 H ty66 rfl (F.t 2 rfl) (F.t 145 rfl) rfl (by simp [Value.cells, Value.oneCell']) rfl ?_
   clear H; intro w H
   refine la F rfl (x_assign rfl) fun a F => ?_
   refine wn (hK37 _ _ ?_)
   refine wp_ret ?_
   try simp only [Exit.then, Exit.inBlock]
   exact fin_ret F (resct F rfl rfl rfl (H.at 2 rfl) ty66 rfl) ⟨⟨0, [], [], ⟨[], 0, 0, 0, []⟩⟩, none, 0, 12, rfl, H.mods, RowOut.nil _ _ _ _, DecC.no hz⟩
  have hk144_13 := hc144; try simp only [bL] at hc144
  refine wp_skip ?_
  refine hK34 _ _ ?_
  refine sr fun _ hK38 => ?_
  refine la F rfl (x_loadn ty66 (F.t 6 rfl) rfl (blk_whole (H.at 6 rfl))) fun a F => ?_
  refine lp rfl ?_
  refine w_storeA 2 H ty66 rfl (F.t 2 rfl) (F.t 146 rfl) rfl (by simp [Value.cells, Value.oneCell']) rfl ?_
  clear H; intro w H
  refine la F rfl (x_assign rfl) fun a F => ?_
  refine wn (hK38 _ _ ?_)
  refine wp_ret ?_
  try simp only [Exit.then, Exit.inBlock]
  have hE : encCE (⟨(gi (gf dl 0).2 0), (gf dl 1).2, (gf dl 2).2, zTT⟩ : ChangeD) = 0 := by first | exact hc144 | exact hc138 | exact hc124 | exact hc48 | exact hc36 | exact hc29 | exact hc24
  have hX : encC (⟨(gi (gf dl 0).2 0), (gf dl 1).2, (gf dl 2).2, zTT⟩ : ChangeD) = bs := by first | exact hc144 | exact hc138 | exact hc124 | exact hc48 | exact hc36 | exact hc29 | exact hc24
  exact fin_ret F (resct F rfl rfl rfl (H.at 2 rfl) ty66 rfl) ⟨(⟨(gi (gf dl 0).2 0), (gf dl 1).2, (gf dl 2).2, zTT⟩ : ChangeD), none, 0, 0, rfl, H.mods, RowOut.nil _ _ _ _, ⟨(hcc ▸ rcOf_B hbf (fun h3 => absurd h3 hc48)), .inl ⟨rfl, encCE0 hE, hX⟩⟩⟩
 have hk124_14 := hc124; try simp only [bL] at hc124
 refine wp_skip ?_
 refine hK9 _ _ ?_
 refine sr fun _ hK39 => ?_
 have H : Hp (fun _ => False) w0 _ [(901, .rd_ (.int .u8) A bs c (fun k => k < w0.heap.size)), (2, .blk b2 (.cells #[.int .i64 0, .string (strOfNums []), .string (strOfNums []), .string (strOfNums []), .int .i64 0, .int .u64 0, .int .u64 0, .slice none 0 0] 66 (0, 0))), (19, .rd_ FE Ar19 dl cr19 (fun kb => okr19 kb ∨ (Value.slice Ar19 dl.length cr19).ownBlock = some kb)), (1001, .rd_ (.int .u8) (fA1) (gf dl 0).2 fc1 (fun kb => okr19 kb ∨ (Value.slice Ar19 dl.length cr19).ownBlock = some kb)), (1499, .cels (adr Ar19 (Int.toNat 0 * 2)) #[.int .i64 (gf dl 0).1, .slice fA1 (gf dl 0).2.length fc1]), (1500, .cel (adr Ar19 (Int.toNat 0 * 2)) (.int .i64 (gf dl 0).1)), (1501, .cel (adr Ar19 (Int.toNat 0 * 2 + 1)) (.slice fA1 (gf dl 0).2.length fc1)), (6, .blk b6 (.cells #[.int .i64 (gi (gf dl 0).2 0), .string (strOfNums ((gf dl 1).2)), .string (strOfNums []), .string (strOfNums []), .int .i64 0, .int .u64 0, .int .u64 0, .slice none 0 0] 66 (0, 0))), (6001, .rd_ (.int .u8) (fA6) (gf dl 1).2 fc6 (fun kb => okr19 kb ∨ (Value.slice Ar19 dl.length cr19).ownBlock = some kb)), (6499, .cels (adr Ar19 (Int.toNat 1 * 2)) #[.int .i64 (gf dl 1).1, .slice fA6 (gf dl 1).2.length fc6]), (6500, .cel (adr Ar19 (Int.toNat 1 * 2)) (.int .i64 (gf dl 1).1)), (6501, .cel (adr Ar19 (Int.toNat 1 * 2 + 1)) (.slice fA6 (gf dl 1).2.length fc6))] := H.sub _ (sub_cons (sub_cons (sub_cons (sub_cons (sub_cons (sub_cons (sub_cons (sub_cons (sub_cons (sub_cons (sub_cons (sub_cons (sub_nil _) 6501 rfl) 6500 rfl) 6499 rfl) 6001 rfl) 6 rfl) 1501 rfl) 1500 rfl) 1499 rfl) 1001 rfl) 19 rfl) 2 rfl) 901 rfl)
 have hcc : rcOf dl = (⟨(gi (gf dl 0).2 0), (gf dl 1).2, [], zTT⟩ : ChangeD) := by unfold rcOf; rw [if_neg (show ¬ rcK dl = 3 from hc48)]; unfold rcV; rw [if_neg hc124] <;> rfl
 refine la F rfl (x_loadn ty66 (F.t 6 rfl) rfl (blk_whole (H.at 6 rfl))) fun a F => ?_
 refine lp rfl ?_
 refine w_call F (x_enter Tryz.func33 (by kernel_rfl) rfl (by simp only [bM, F.t 132 rfl] <;> rfl)) (rencC_calls (c := (⟨(gi (gf dl 0).2 0), (gf dl 1).2, [], zTT⟩ : ChangeD)) _ (Rd.nil StE _ (fun _ => False)) (hcc ▸ rcOf_B hbf (fun h3 => absurd h3 hc48))) rfl rfl ?_
 rintro _ w ⟨vr133, rfl, hm_, hr_⟩; refine ⟨_, rfl, ?_⟩; clear F; intro a F; have H := Hp.rowOut H 133 hm_ hr_; obtain ⟨Ar133, cr133, rfl⟩ := (H.row 133 rfl).form
 refine la F rfl (x_move (F.t 133 rfl)) fun a F => ?_
 refine la F rfl (x_extract (F.t 131 rfl) rfl) fun a F => ?_
 refine la F rfl (x_extract (F.t 131 rfl) rfl) fun a F => ?_
 refine la F rfl (x_assign (F.t 134 rfl)) fun a F => ?_
 refine la F rfl (x_assign (F.t 135 rfl)) fun a F => ?_
 refine wn (hK39 _ _ ?_)
 refine wp_seq_k fun _ hK40 => ?_
 refine sr fun _ hK41 => ?_
 have hBy := encC_byte (hcc ▸ rcOf_B hbf (fun h3 => absurd h3 hc48))
 refine la F rfl (x_move (F.t 16 rfl)) fun a F => ?_
 refine la F rfl (x_neq (F.t 136 rfl) rfl) fun a F => ?_
 refine la F rfl (x_move (F.t 137 rfl)) fun a F => ?_
 refine split_bool F 138 rfl (fun hb138 => ?_) (fun hb138 => ?_)
 ·have hc138 := hb138; try simp only [bL] at hc138
  have hz : NoC bs := noC_rend hdl (fun h => by rw [hcc] at h; exact hc138 h.1)
  refine los F hb138 rfl fun a F => ?_
  refine los F hb138 rfl fun a F => ?_
  refine los F hb138 rfl fun a F => ?_
  refine los F hb138 rfl fun a F => ?_
  refine los F hb138 rfl fun a F => ?_
  refine la F rfl (x_pickT (F.t 138 rfl) hb138 rfl) fun a F => ?_
  refine wn (hK41 _ _ ?_)
  refine wp_cond_true (F.t 144 rfl) ?_
  refine sr fun _ hK42 => ?_
  refine la F rfl (x_buildS (cells := #[.int .i64 0, .string (strOfNums []), .string (strOfNums []), .string (strOfNums []), .int .i64 0, .int .u64 0, .int .u64 0, .slice none 0 0]) (places := #[(0, 1), (1, 1), (2, 1), (3, 5)]) Tryz.underlying66 ty66 (by kernel_rfl) Array.map_empty rfl) fun a F => ?_
  refine lp rfl ?_
  refine w_storeA 2 H ty66 rfl (F.t 2 rfl) (F.t 145 rfl) rfl (by simp [Value.cells, Value.oneCell']) rfl ?_
  clear H; intro w H
  refine la F rfl (x_assign rfl) fun a F => ?_
  refine wn (hK42 _ _ ?_)
  refine wp_ret ?_
  try simp only [Exit.then, Exit.inBlock]
  exact fin_ret F (resct F rfl rfl rfl (H.at 2 rfl) ty66 rfl) ⟨⟨0, [], [], ⟨[], 0, 0, 0, []⟩⟩, none, 0, 12, rfl, H.mods, RowOut.nil _ _ _ _, DecC.no hz⟩
 have hc138 := hb138; try simp only [bL] at hc138
 refine lgs F hb138 rfl (x_move (F.t 15 rfl)) fun a F => ?_
 refine lgs F hb138 rfl (x_b2s Tryz.underlying27 Tryz.underlying5 Tryz.underlying9 (Row.rd (ok' := fun k_ => (fun _ => False) k_ ∨ (.slice Ar133 (encC (⟨(gi (gf dl 0).2 0), (gf dl 1).2, [], zTT⟩ : ChangeD)).length cr133 : Value).ownBlock = some k_) (H.row 133 rfl) (fun _ hk_ _ => .inl hk_) (fun _ hk_ => .inr hk_)) (F.t 139 rfl)) fun a F => ?_
 refine lgs F hb138 rfl (x_move (F.t 0 rfl)) fun a F => ?_
 refine lgs F hb138 rfl (x_b2s Tryz.underlying27 Tryz.underlying5 Tryz.underlying9 ((H.rd 901 rfl)) (F.t 141 rfl)) fun a F => ?_
 refine lgs F hb138 rfl (x_nen (xs := (encC (⟨(gi (gf dl 0).2 0), (gf dl 1).2, [], zTT⟩ : ChangeD))) (ys := bs) (F.t 140 rfl) (F.t 142 rfl) hBy hby) fun a F => ?_
 refine la F rfl (x_pickF (F.t 138 rfl) hb138 (F.t 143 rfl)) fun a F => ?_
 refine wn (hK41 _ _ ?_)
 refine wp_cond_split (F.t 144 rfl) (fun hc144 => ?_) (fun hc144 => ?_)
 ·have hk144_15 := hc144; try simp only [bL] at hc144
  have hz : NoC bs := noC_rend hdl (fun h => by rw [hcc] at h; exact hc144 h.2)
  refine sr fun _ hK43 => ?_
  refine la F rfl (x_buildS (cells := #[.int .i64 0, .string (strOfNums []), .string (strOfNums []), .string (strOfNums []), .int .i64 0, .int .u64 0, .int .u64 0, .slice none 0 0]) (places := #[(0, 1), (1, 1), (2, 1), (3, 5)]) Tryz.underlying66 ty66 (by kernel_rfl) Array.map_empty rfl) fun a F => ?_
  refine lp rfl ?_
  refine w_storeA 2 H ty66 rfl (F.t 2 rfl) (F.t 145 rfl) rfl (by simp [Value.cells, Value.oneCell']) rfl ?_
  clear H; intro w H
  refine la F rfl (x_assign rfl) fun a F => ?_
  refine wn (hK43 _ _ ?_)
  refine wp_ret ?_
  try simp only [Exit.then, Exit.inBlock]
  exact fin_ret F (resct F rfl rfl rfl (H.at 2 rfl) ty66 rfl) ⟨⟨0, [], [], ⟨[], 0, 0, 0, []⟩⟩, none, 0, 12, rfl, H.mods, RowOut.nil _ _ _ _, DecC.no hz⟩
 have hk144_16 := hc144; try simp only [bL] at hc144
 refine wp_skip ?_
 refine hK40 _ _ ?_
 refine sr fun _ hK44 => ?_
 refine la F rfl (x_loadn ty66 (F.t 6 rfl) rfl (blk_whole (H.at 6 rfl))) fun a F => ?_
 refine lp rfl ?_
 refine w_storeA 2 H ty66 rfl (F.t 2 rfl) (F.t 146 rfl) rfl (by simp [Value.cells, Value.oneCell']) rfl ?_
 clear H; intro w H
 refine la F rfl (x_assign rfl) fun a F => ?_
 refine wn (hK44 _ _ ?_)
 refine wp_ret ?_
 try simp only [Exit.then, Exit.inBlock]
 have hE : encCE (⟨(gi (gf dl 0).2 0), (gf dl 1).2, [], zTT⟩ : ChangeD) = 0 := by first | exact hc144 | exact hc138 | exact hc124 | exact hc48 | exact hc36 | exact hc29 | exact hc24
 have hX : encC (⟨(gi (gf dl 0).2 0), (gf dl 1).2, [], zTT⟩ : ChangeD) = bs := by first | exact hc144 | exact hc138 | exact hc124 | exact hc48 | exact hc36 | exact hc29 | exact hc24
 exact fin_ret F (resct F rfl rfl rfl (H.at 2 rfl) ty66 rfl) ⟨(⟨(gi (gf dl 0).2 0), (gf dl 1).2, [], zTT⟩ : ChangeD), none, 0, 0, rfl, H.mods, RowOut.nil _ _ _ _, ⟨(hcc ▸ rcOf_B hbf (fun h3 => absurd h3 hc48)), .inl ⟨rfl, encCE0 hE, hX⟩⟩⟩
theorem rdecM_calls (w0 : World) {ok : Nat → Prop} {A : Option Addr} {bs : List Int} {c : Nat} (hrb : Rd (.int .u8) w0 ok A bs c) (hby : Byte bs) : Calls Tryz.prog 10 #[.slice A bs.length c] w0 fun e w' => ∃ (m : MessageD) (An : Option Addr) (cn : Nat) (Ac : Option Addr) (cc : Nat) (okm : Nat → Prop) (g : Int), e = .returned (.tuple #[.agg #[.int .i64 m.kind, .int .i64 m.src, .int .i64 m.dst, .int .i64 m.tx, .slice An m.nodes.length cn, .slice Ac m.changes.length cc], .int .i64 g]) ∧ Mods (fun _ => False) w0 w' ∧ Rd (.int .i64) w' okm An m.nodes cn ∧ Rd ChgE w' okm Ac m.changes cc ∧ (∀ k, okm k → w0.heap.size ≤ k ∧ k < w'.heap.size) ∧ DecM bs m g := by
 refine cow Tryz.func10 rfl Tryz.ntmps10 (Nat.le_of_ble_eq_true rfl) fun a F => ?_
 have H := Hp.nil (fun _ => False) w0
 have H := H.arg 901 hrb.all (fun _ h => ⟨h, fun h => h⟩)
 have hleb := hrb.le; unfold maxLen at hleb
 refine sr fun _ hK1 => ?_
 refine lp rfl ?_
 refine w_alloc 2 F H rfl ty26 ?_
 clear F H; intro a w b2 F H
 refine la F rfl (x_assign rfl) fun a F => ?_
 refine wn (hK1 _ _ ?_)
 refine wp_seq_k fun _ hK2 => ?_
 refine sr fun _ hK3 => ?_
 refine la F rfl (x_move (F.t 0 rfl)) fun a F => ?_
 refine la F rfl (x_len_slice Tryz.underlying27 (F.t 15 rfl)) fun a F => ?_
 refine la F rfl (x_lss (F.t 16 rfl) rfl) fun a F => ?_
 refine wn (hK3 _ _ ?_)
 refine wp_cond_split (F.t 17 rfl) (fun hc17 => ?_) (fun hc17 => ?_)
 ·have hk17_1 := hc17; try simp only [bL] at hc17
  have hz : NoM bs := noM_short hc17
  refine sr fun _ hK4 => ?_
  refine la F rfl (x_buildS (cells := #[.int .i64 0, .int .i64 0, .int .i64 0, .int .i64 0, .slice none 0 0, .slice none 0 0]) (places := #[(0, 1), (1, 1), (2, 1), (3, 1), (4, 1), (5, 1)]) Tryz.underlying26 ty26 (by kernel_rfl) Array.map_empty rfl) fun a F => ?_
  refine lp rfl ?_
  refine w_storeA 2 H ty26 rfl (F.t 2 rfl) (F.t 18 rfl) rfl (by simp [Value.cells, Value.oneCell']) rfl ?_
  clear H; intro w H
  refine la F rfl (x_assign rfl) fun a F => ?_
  refine wn (hK4 _ _ ?_)
  refine wp_ret ?_
  try simp only [Exit.then, Exit.inBlock]
  exact fin_ret F (resct F rfl rfl rfl (H.at 2 rfl) ty26 rfl) ⟨⟨0, 0, 0, 0, [], []⟩, none, 0, none, 0, (fun _ => False), 161, rfl, H.mods, Rd.nil _ _ _, Rd.nil _ _ _, (fun k h => h.elim), DecM.no hz⟩
 have hk17_2 := hc17; try simp only [bL] at hc17
 refine wp_skip ?_
 refine hK2 _ _ ?_
 refine sr fun _ hK5 => ?_
 refine la F rfl (x_move (F.t 0 rfl)) fun a F => ?_
 refine la F rfl (x_move (F.t 0 rfl)) fun a F => ?_
 refine la F rfl (x_len_slice Tryz.underlying27 (F.t 21 rfl)) fun a F => ?_
 refine la F rfl (x_sub (F.t 22 rfl) rfl (w64 (by omega) (by omega))) fun a F => ?_
 refine la F rfl (x_slice_h Tryz.underlying27 ty5 (F.t 20 rfl) (F.t 23 rfl) (by omega) (by omega) ((H.rd 901 rfl)).1) fun a F => ?_
 refine lp rfl ?_
 refine w_call F (x_enter Tryz.func41 (by kernel_rfl) rfl (by simp only [bM, F.t 24 rfl] <;> rfl)) (refDec_calls _ ((Rd.take ((H.rd 901 rfl)) (((bs.length : Int) - 4).toNat))) ((hby : Byte _).take _)) rfl rfl ?_
 rintro _ w ⟨vr25, rfl, hm_, okr25, hr_, hf_, ho25_⟩; refine ⟨_, rfl, ?_⟩; clear F; intro a F; have H := H.newRow 25 hm_ hr_ hf_ ho25_; obtain ⟨Ar25, cr25, rfl⟩ := (H.row 25 rfl).form
 refine la F rfl (x_move (F.t 25 rfl)) fun a F => ?_
 refine la F rfl (x_extract (F.t 19 rfl) rfl) fun a F => ?_
 refine la F rfl (x_extract (F.t 19 rfl) rfl) fun a F => ?_
 refine la F rfl (x_assign (F.t 26 rfl)) fun a F => ?_
 refine la F rfl (x_assign (F.t 27 rfl)) fun a F => ?_
 have hbT := bodyT_is hc17
 obtain ⟨dl, hdl0⟩ : ∃ dl, dl = (decR (bs.take (Int.toNat ((bs.length : Int) - 4)))).getD [] := ⟨_, rfl⟩
 rw [← hdl0] at F H
 have hsh : short dl = true := by rw [hdl0]; exact dl_short ((hby : Byte _).take _)
 have hbf : ∀ f ∈ dl, Byte f.2 := by rw [hdl0]; exact dl_byte ((hby : Byte _).take _)
 have H := H.freeze 25 rfl (fun kb => okr25 kb ∨ (Value.slice Ar25 dl.length cr25).ownBlock = some kb) (fun kb => Iff.rfl)
 refine wn (hK5 _ _ ?_)
 refine wp_seq_k fun _ hK6 => ?_
 refine sr fun _ hK7 => ?_
 refine la F rfl (x_move (F.t 5 rfl)) fun a F => ?_
 refine la F rfl (x_neq (F.t 28 rfl) rfl) fun a F => ?_
 refine la F rfl (x_move (F.t 29 rfl)) fun a F => ?_
 refine split_bool F 30 rfl (fun hb30 => ?_) (fun hb30 => ?_)
 ·have hc30 := hb30; try simp only [bL] at hc30
  have hz : NoM bs := noM_none (by rw [← hbT]; cases hd : decR (bs.take (Int.toNat ((bs.length : Int) - 4))) with | none => rfl | some l => rw [hd] at hc30; exact absurd rfl hc30)
  refine los F hb30 rfl fun a F => ?_
  refine los F hb30 rfl fun a F => ?_
  refine los F hb30 rfl fun a F => ?_
  refine la F rfl (x_pickT (F.t 30 rfl) hb30 rfl) fun a F => ?_
  refine la F rfl (x_move (F.t 34 rfl)) fun a F => ?_
  refine lo F rfl fun a F => ?_
  refine lo F rfl fun a F => ?_
  refine lo F rfl fun a F => ?_
  refine lo F rfl fun a F => ?_
  refine lo F rfl fun a F => ?_
  refine lo F rfl fun a F => ?_
  refine la F rfl (x_pickT (F.t 35 rfl) rfl rfl) fun a F => ?_
  refine wn (hK7 _ _ ?_)
  refine wp_cond_true (F.t 42 rfl) ?_
  refine sr fun _ hK8 => ?_
  refine la F rfl (x_buildS (cells := #[.int .i64 0, .int .i64 0, .int .i64 0, .int .i64 0, .slice none 0 0, .slice none 0 0]) (places := #[(0, 1), (1, 1), (2, 1), (3, 1), (4, 1), (5, 1)]) Tryz.underlying26 ty26 (by kernel_rfl) Array.map_empty rfl) fun a F => ?_
  refine lp rfl ?_
  refine w_storeA 2 H ty26 rfl (F.t 2 rfl) (F.t 43 rfl) rfl (by simp [Value.cells, Value.oneCell']) rfl ?_
  clear H; intro w H
  refine la F rfl (x_assign rfl) fun a F => ?_
  refine wn (hK8 _ _ ?_)
  refine wp_ret ?_
  try simp only [Exit.then, Exit.inBlock]
  exact fin_ret F (resct F rfl rfl rfl (H.at 2 rfl) ty26 rfl) ⟨⟨0, 0, 0, 0, [], []⟩, none, 0, none, 0, (fun _ => False), 161, rfl, H.mods, Rd.nil _ _ _, Rd.nil _ _ _, (fun k h => h.elim), DecM.no hz⟩
 have hc30 := hb30; try simp only [bL] at hc30
 have hdec : decR (bodyM bs) = some dl := by rw [hdl0, ← hbT]; cases hd : decR (bs.take (Int.toNat ((bs.length : Int) - 4))) with | some l => rfl | none => rw [hd] at hc30; exact absurd hc30 (by decide)
 have hfew := dl_few ((hby : Byte _).take _) hdec
 refine lgs F hb30 rfl (x_move (F.t 4 rfl)) fun a F => ?_
 refine lgs F hb30 rfl (x_len_slice Tryz.underlying60 (F.t 31 rfl)) fun a F => ?_
 refine lgs F hb30 rfl (x_lss (F.t 32 rfl) rfl) fun a F => ?_
 refine la F rfl (x_pickF (F.t 30 rfl) hb30 (F.t 33 rfl)) fun a F => ?_
 refine la F rfl (x_move (F.t 34 rfl)) fun a F => ?_
 refine split_bool F 35 rfl (fun hb35 => ?_) (fun hb35 => ?_)
 ·have hc35 := hb35; try simp only [bL] at hc35
  have hz : NoM bs := noM_shape hdec (fun h => by have := h.1; omega)
  refine los F hb35 rfl fun a F => ?_
  refine los F hb35 rfl fun a F => ?_
  refine los F hb35 rfl fun a F => ?_
  refine los F hb35 rfl fun a F => ?_
  refine los F hb35 rfl fun a F => ?_
  refine los F hb35 rfl fun a F => ?_
  refine la F rfl (x_pickT (F.t 35 rfl) hb35 rfl) fun a F => ?_
  refine wn (hK7 _ _ ?_)
  refine wp_cond_true (F.t 42 rfl) ?_
  refine sr fun _ hK9 => ?_
  refine la F rfl (x_buildS (cells := #[.int .i64 0, .int .i64 0, .int .i64 0, .int .i64 0, .slice none 0 0, .slice none 0 0]) (places := #[(0, 1), (1, 1), (2, 1), (3, 1), (4, 1), (5, 1)]) Tryz.underlying26 ty26 (by kernel_rfl) Array.map_empty rfl) fun a F => ?_
  refine lp rfl ?_
  refine w_storeA 2 H ty26 rfl (F.t 2 rfl) (F.t 43 rfl) rfl (by simp [Value.cells, Value.oneCell']) rfl ?_
  clear H; intro w H
  refine la F rfl (x_assign rfl) fun a F => ?_
  refine wn (hK9 _ _ ?_)
  refine wp_ret ?_
  try simp only [Exit.then, Exit.inBlock]
  exact fin_ret F (resct F rfl rfl rfl (H.at 2 rfl) ty26 rfl) ⟨⟨0, 0, 0, 0, [], []⟩, none, 0, none, 0, (fun _ => False), 161, rfl, H.mods, Rd.nil _ _ _, Rd.nil _ _ _, (fun k h => h.elim), DecM.no hz⟩
 have hc35 := hb35; try simp only [bL] at hc35
 obtain ⟨fA1, fc1, hfr1, hf1_0, hf1_1, hfw1⟩ := Rd.fld ((H.rd 25 rfl)) (gf_some (xs := dl) (i := 0) (by omega) (by omega))
 have H := H.subrd 25 rfl 1001 hfr1 (fun _ h => h)
 have H := H.subcels 25 rfl 1499 hfw1 (Rd.inok ((H.rd 25 rfl)) (by omega) _)
 have H := H.subcel 25 rfl 1500 hf1_0 (Rd.inok ((H.rd 25 rfl)) (by omega) _)
 have H := H.subcel 25 rfl 1501 hf1_1 (Rd.inok ((H.rd 25 rfl)) (by omega) _)
 refine lgs F hb35 rfl (x_move (F.t 4 rfl)) fun a F => ?_
 refine lgs F hb35 rfl (x_iaddr_A Tryz.underlying60 ty57 ((H.rd 25 rfl)) (F.t 36 rfl) rfl (by omega) (by omega) _) fun a F => ?_
 refine lgs F hb35 rfl (x_faddrA ((H.rd 25 rfl)) (by omega) _ Tryz.underlying57 rfl ty27 (by decide) (F.t 37 rfl) rfl) fun a F => ?_
 refine lgs F hb35 rfl (x_load1 ty27 (F.t 38 rfl) (H.holds 1501 _ rfl)) fun a F => ?_
 refine lgs F hb35 rfl (x_len_slice Tryz.underlying27 (F.t 39 rfl)) fun a F => ?_
 refine lgs F hb35 rfl (x_neq (F.t 40 rfl) rfl) fun a F => ?_
 refine la F rfl (x_pickF (F.t 35 rfl) hb35 (F.t 41 rfl)) fun a F => ?_
 refine wn (hK7 _ _ ?_)
 refine wp_cond_split (F.t 42 rfl) (fun hc42 => ?_) (fun hc42 => ?_)
 ·have hk42_3 := hc42; try simp only [bL] at hc42
  have hz : NoM bs := noM_shape hdec (fun h => by have := h.2.1; omega)
  refine sr fun _ hK10 => ?_
  refine la F rfl (x_buildS (cells := #[.int .i64 0, .int .i64 0, .int .i64 0, .int .i64 0, .slice none 0 0, .slice none 0 0]) (places := #[(0, 1), (1, 1), (2, 1), (3, 1), (4, 1), (5, 1)]) Tryz.underlying26 ty26 (by kernel_rfl) Array.map_empty rfl) fun a F => ?_
  refine lp rfl ?_
  refine w_storeA 2 H ty26 rfl (F.t 2 rfl) (F.t 43 rfl) rfl (by simp [Value.cells, Value.oneCell']) rfl ?_
  clear H; intro w H
  refine la F rfl (x_assign rfl) fun a F => ?_
  refine wn (hK10 _ _ ?_)
  refine wp_ret ?_
  try simp only [Exit.then, Exit.inBlock]
  exact fin_ret F (resct F rfl rfl rfl (H.at 2 rfl) ty26 rfl) ⟨⟨0, 0, 0, 0, [], []⟩, none, 0, none, 0, (fun _ => False), 161, rfl, H.mods, Rd.nil _ _ _, Rd.nil _ _ _, (fun k h => h.elim), DecM.no hz⟩
 have hk42_4 := hc42; try simp only [bL] at hc42
 have hl1 : ((gf dl 0).2.length : Int) = 3 := by omega
 refine wp_skip ?_
 refine hK6 _ _ ?_
 refine sr fun _ hK11 => ?_
 obtain ⟨fA2, fc2, hfr2, hf2_0, hf2_1, hfw2⟩ := Rd.fld ((H.rd 25 rfl)) (gf_some (xs := dl) (i := 1) (by omega) (by omega))
 have H := H.subrd 25 rfl 2001 hfr2 (fun _ h => h)
 have H := H.subcels 25 rfl 2499 hfw2 (Rd.inok ((H.rd 25 rfl)) (by omega) _)
 have H := H.subcel 25 rfl 2500 hf2_0 (Rd.inok ((H.rd 25 rfl)) (by omega) _)
 have H := H.subcel 25 rfl 2501 hf2_1 (Rd.inok ((H.rd 25 rfl)) (by omega) _)
 refine la F rfl (x_move (F.t 4 rfl)) fun a F => ?_
 refine la F rfl (x_iaddr_A Tryz.underlying60 ty57 ((H.rd 25 rfl)) (F.t 45 rfl) rfl (by omega) (by omega) _) fun a F => ?_
 refine la F rfl (x_faddrA ((H.rd 25 rfl)) (by omega) _ Tryz.underlying57 rfl ty27 (by decide) (F.t 46 rfl) rfl) fun a F => ?_
 refine la F rfl (x_load1 ty27 (F.t 47 rfl) (H.holds 2501 _ rfl)) fun a F => ?_
 refine lp rfl ?_
 refine w_call F (x_enter Tryz.func42 (by kernel_rfl) rfl (by simp only [bM, F.t 48 rfl] <;> rfl)) (refNum_calls _ ((H.rd 2001 rfl)) (gb1 hbf)) rfl rfl ?_
 rintro _ w ⟨rfl, hm_⟩; refine ⟨_, rfl, ?_⟩; clear F; intro a F; have H := H.same hm_
 refine la F rfl (x_move (F.t 49 rfl)) fun a F => ?_
 refine la F rfl (x_extract (F.t 44 rfl) rfl) fun a F => ?_
 refine la F rfl (x_extract (F.t 44 rfl) rfl) fun a F => ?_
 refine la F rfl (x_assign (F.t 50 rfl)) fun a F => ?_
 refine la F rfl (x_assign (F.t 51 rfl)) fun a F => ?_
 refine wn (hK11 _ _ ?_)
 refine wp_seq_k fun _ hK12 => ?_
 refine sr fun _ hK13 => ?_
 refine la F rfl (x_move (F.t 7 rfl)) fun a F => ?_
 refine la F rfl (x_not (F.t 52 rfl)) fun a F => ?_
 refine la F rfl (x_move (F.t 53 rfl)) fun a F => ?_
 refine split_bool F 54 rfl (fun hb54 => ?_) (fun hb54 => ?_)
 ·have hc54 := hb54; try simp only [bL] at hc54
  have hz : NoM bs := noM_shape hdec (fun h => by rw [h.2.2.1] at hc54; exact absurd hc54 (by decide))
  refine los F hb54 rfl fun a F => ?_
  refine los F hb54 rfl fun a F => ?_
  refine la F rfl (x_pickT (F.t 54 rfl) hb54 rfl) fun a F => ?_
  refine wn (hK13 _ _ ?_)
  refine wp_cond_true (F.t 57 rfl) ?_
  refine sr fun _ hK14 => ?_
  refine la F rfl (x_buildS (cells := #[.int .i64 0, .int .i64 0, .int .i64 0, .int .i64 0, .slice none 0 0, .slice none 0 0]) (places := #[(0, 1), (1, 1), (2, 1), (3, 1), (4, 1), (5, 1)]) Tryz.underlying26 ty26 (by kernel_rfl) Array.map_empty rfl) fun a F => ?_
  refine lp rfl ?_
  refine w_storeA 2 H ty26 rfl (F.t 2 rfl) (F.t 58 rfl) rfl (by simp [Value.cells, Value.oneCell']) rfl ?_
  clear H; intro w H
  refine la F rfl (x_assign rfl) fun a F => ?_
  refine wn (hK14 _ _ ?_)
  refine wp_ret ?_
  try simp only [Exit.then, Exit.inBlock]
  exact fin_ret F (resct F rfl rfl rfl (H.at 2 rfl) ty26 rfl) ⟨⟨0, 0, 0, 0, [], []⟩, none, 0, none, 0, (fun _ => False), 161, rfl, H.mods, Rd.nil _ _ _, Rd.nil _ _ _, (fun k h => h.elim), DecM.no hz⟩
 have hc54 := hb54; try simp only [bL] at hc54
 refine lgs F hb54 rfl (x_move (F.t 6 rfl)) fun a F => ?_
 refine lgs F hb54 rfl (x_gtr (F.t 55 rfl) rfl) fun a F => ?_
 refine la F rfl (x_pickF (F.t 54 rfl) hb54 (F.t 56 rfl)) fun a F => ?_
 refine wn (hK13 _ _ ?_)
 refine wp_cond_split (F.t 57 rfl) (fun hc57 => ?_) (fun hc57 => ?_)
 ·have hk57_5 := hc57; try simp only [bL] at hc57
  have hz : NoM bs := noM_shape hdec (fun h => h.2.2.2 (by omega))
  refine sr fun _ hK15 => ?_
  refine la F rfl (x_buildS (cells := #[.int .i64 0, .int .i64 0, .int .i64 0, .int .i64 0, .slice none 0 0, .slice none 0 0]) (places := #[(0, 1), (1, 1), (2, 1), (3, 1), (4, 1), (5, 1)]) Tryz.underlying26 ty26 (by kernel_rfl) Array.map_empty rfl) fun a F => ?_
  refine lp rfl ?_
  refine w_storeA 2 H ty26 rfl (F.t 2 rfl) (F.t 58 rfl) rfl (by simp [Value.cells, Value.oneCell']) rfl ?_
  clear H; intro w H
  refine la F rfl (x_assign rfl) fun a F => ?_
  refine wn (hK15 _ _ ?_)
  refine wp_ret ?_
  try simp only [Exit.then, Exit.inBlock]
  exact fin_ret F (resct F rfl rfl rfl (H.at 2 rfl) ty26 rfl) ⟨⟨0, 0, 0, 0, [], []⟩, none, 0, none, 0, (fun _ => False), 161, rfl, H.mods, Rd.nil _ _ _, Rd.nil _ _ _, (fun k h => h.elim), DecM.no hz⟩
 have hk57_6 := hc57; try simp only [bL] at hc57
 refine wp_skip ?_
 refine hK12 _ _ ?_
 refine wp_seq_k fun _ hK16 => ?_
 refine r_start [(901, .rd_ (.int .u8) A bs c (fun k => k < w0.heap.size)), (25, .rd_ FE Ar25 dl cr25 (fun kb => okr25 kb ∨ (Value.slice Ar25 dl.length cr25).ownBlock = some kb)), (1001, .rd_ (.int .u8) (fA1) (gf dl 0).2 fc1 (fun kb => okr25 kb ∨ (Value.slice Ar25 dl.length cr25).ownBlock = some kb)), (1499, .cels (adr Ar25 (Int.toNat 0 * 2)) #[.int .i64 (gf dl 0).1, .slice fA1 (gf dl 0).2.length fc1]), (1500, .cel (adr Ar25 (Int.toNat 0 * 2)) (.int .i64 (gf dl 0).1)), (1501, .cel (adr Ar25 (Int.toNat 0 * 2 + 1)) (.slice fA1 (gf dl 0).2.length fc1)), (2001, .rd_ (.int .u8) (fA2) (gf dl 1).2 fc2 (fun kb => okr25 kb ∨ (Value.slice Ar25 dl.length cr25).ownBlock = some kb)), (2499, .cels (adr Ar25 (Int.toNat 1 * 2)) #[.int .i64 (gf dl 1).1, .slice fA2 (gf dl 1).2.length fc2]), (2500, .cel (adr Ar25 (Int.toNat 1 * 2)) (.int .i64 (gf dl 1).1)), (2501, .cel (adr Ar25 (Int.toNat 1 * 2 + 1)) (.slice fA2 (gf dl 1).2.length fc2))] (by kernel_rfl) H fun H => ?_
 have hS : SL [(901, .rd_ (.int .u8) A bs c (fun k => k < w0.heap.size)), (25, .rd_ FE Ar25 dl cr25 (fun kb => okr25 kb ∨ (Value.slice Ar25 dl.length cr25).ownBlock = some kb)), (1001, .rd_ (.int .u8) (fA1) (gf dl 0).2 fc1 (fun kb => okr25 kb ∨ (Value.slice Ar25 dl.length cr25).ownBlock = some kb)), (1499, .cels (adr Ar25 (Int.toNat 0 * 2)) #[.int .i64 (gf dl 0).1, .slice fA1 (gf dl 0).2.length fc1]), (1500, .cel (adr Ar25 (Int.toNat 0 * 2)) (.int .i64 (gf dl 0).1)), (1501, .cel (adr Ar25 (Int.toNat 0 * 2 + 1)) (.slice fA1 (gf dl 0).2.length fc1)), (2001, .rd_ (.int .u8) (fA2) (gf dl 1).2 fc2 (fun kb => okr25 kb ∨ (Value.slice Ar25 dl.length cr25).ownBlock = some kb)), (2499, .cels (adr Ar25 (Int.toNat 1 * 2)) #[.int .i64 (gf dl 1).1, .slice fA2 (gf dl 1).2.length fc2]), (2500, .cel (adr Ar25 (Int.toNat 1 * 2)) (.int .i64 (gf dl 1).1)), (2501, .cel (adr Ar25 (Int.toNat 1 * 2 + 1)) (.slice fA2 (gf dl 1).2.length fc2))] _ := SL.of H (sub_cons (sub_cons (sub_cons (sub_cons (sub_cons (sub_cons (sub_cons (sub_cons (sub_cons (sub_cons (sub_nil _) 2501 rfl) 2500 rfl) 2499 rfl) 2001 rfl) 1501 rfl) 1500 rfl) 1499 rfl) 1001 rfl) 25 rfl) 901 rfl)
 refine rT 0 F rfl (by kernel_rfl) pq rfl hS (fun w hS => x_move (F.t 4 rfl)) rfl fun a F => ?_
 refine rT 1 F rfl (by kernel_rfl) pq rfl hS (fun w hS => x_iaddr_A Tryz.underlying60 ty57 ((H.rd 25 rfl)) (F.t 59 rfl) rfl (by omega) (by omega) _) rfl fun a F => ?_
 refine rT 2 F rfl (by kernel_rfl) pq rfl hS (fun w hS => x_faddrA ((SL.rd hS 25 rfl)) (by omega) _ Tryz.underlying57 rfl ty27 (by decide) (F.t 60 rfl) rfl) rfl fun a F => ?_
 refine rT 3 F rfl (by kernel_rfl) pq rfl hS (fun w hS => x_load1 ty27 (F.t 61 rfl) (hS 1501 _ rfl)) rfl fun a F => ?_
 refine rT 4 F rfl (by kernel_rfl) pq rfl hS (fun w hS => x_iaddr_A Tryz.underlying27 ty5 ((H.rd 1001 rfl)) (F.t 62 rfl) rfl (by omega) (by omega) _) rfl fun a F => ?_
 refine rT 5 F rfl (by kernel_rfl) pq rfl hS (fun w hS => x_load1 ty5 (F.t 63 rfl) (((SL.rd hS 1001 rfl)).cellA (gi_some (i := 0) (by omega) (by omega)))) rfl fun a F => ?_
 refine rT 6 F rfl (by kernel_rfl) pq rfl hS (fun w hS => x_conv Tryz.underlying22 ⟨_, Tryz.underlying5⟩ (F.t 64 rfl) (w64 (by have := ((gb0 hbf).gi 0); omega) (by have := ((gb0 hbf).gi 0); omega))) rfl fun a F => ?_
 refine rT 7 F rfl (by kernel_rfl) pq rfl hS (fun w hS => x_move (F.t 4 rfl)) rfl fun a F => ?_
 refine rT 8 F rfl (by kernel_rfl) pq rfl hS (fun w hS => x_iaddr_A Tryz.underlying60 ty57 ((H.rd 25 rfl)) (F.t 66 rfl) rfl (by omega) (by omega) _) rfl fun a F => ?_
 refine rT 9 F rfl (by kernel_rfl) pq rfl hS (fun w hS => x_faddrA ((SL.rd hS 25 rfl)) (by omega) _ Tryz.underlying57 rfl ty27 (by decide) (F.t 67 rfl) rfl) rfl fun a F => ?_
 refine rT 10 F rfl (by kernel_rfl) pq rfl hS (fun w hS => x_load1 ty27 (F.t 68 rfl) (hS 1501 _ rfl)) rfl fun a F => ?_
 refine rT 11 F rfl (by kernel_rfl) pq rfl hS (fun w hS => x_iaddr_A Tryz.underlying27 ty5 ((H.rd 1001 rfl)) (F.t 69 rfl) rfl (by omega) (by omega) _) rfl fun a F => ?_
 refine rT 12 F rfl (by kernel_rfl) pq rfl hS (fun w hS => x_load1 ty5 (F.t 70 rfl) (((SL.rd hS 1001 rfl)).cellA (gi_some (i := 1) (by omega) (by omega)))) rfl fun a F => ?_
 refine rT 13 F rfl (by kernel_rfl) pq rfl hS (fun w hS => x_conv Tryz.underlying3 ⟨_, Tryz.underlying5⟩ (F.t 71 rfl) (w64 (by have := ((gb0 hbf).gi 1); omega) (by have := ((gb0 hbf).gi 1); omega))) rfl fun a F => ?_
 refine rT 14 F rfl (by kernel_rfl) pq rfl hS (fun w hS => x_move (F.t 4 rfl)) rfl fun a F => ?_
 refine rT 15 F rfl (by kernel_rfl) pq rfl hS (fun w hS => x_iaddr_A Tryz.underlying60 ty57 ((H.rd 25 rfl)) (F.t 73 rfl) rfl (by omega) (by omega) _) rfl fun a F => ?_
 refine rT 16 F rfl (by kernel_rfl) pq rfl hS (fun w hS => x_faddrA ((SL.rd hS 25 rfl)) (by omega) _ Tryz.underlying57 rfl ty27 (by decide) (F.t 74 rfl) rfl) rfl fun a F => ?_
 refine rT 17 F rfl (by kernel_rfl) pq rfl hS (fun w hS => x_load1 ty27 (F.t 75 rfl) (hS 1501 _ rfl)) rfl fun a F => ?_
 refine rT 18 F rfl (by kernel_rfl) pq rfl hS (fun w hS => x_iaddr_A Tryz.underlying27 ty5 ((H.rd 1001 rfl)) (F.t 76 rfl) rfl (by omega) (by omega) _) rfl fun a F => ?_
 refine rT 19 F rfl (by kernel_rfl) pq rfl hS (fun w hS => x_load1 ty5 (F.t 77 rfl) (((SL.rd hS 1001 rfl)).cellA (gi_some (i := 2) (by omega) (by omega)))) rfl fun a F => ?_
 refine rT 20 F rfl (by kernel_rfl) pq rfl hS (fun w hS => x_conv Tryz.underlying3 ⟨_, Tryz.underlying5⟩ (F.t 78 rfl) (w64 (by have := ((gb0 hbf).gi 2); omega) (by have := ((gb0 hbf).gi 2); omega))) rfl fun a F => ?_
 refine rT 21 F rfl (by kernel_rfl) pq rfl hS (fun w hS => x_move (F.t 6 rfl)) rfl fun a F => ?_
 refine rT 22 F rfl (by kernel_rfl) pq rfl hS (fun w hS => x_conv Tryz.underlying3 ⟨_, Tryz.underlying59⟩ (F.t 80 rfl) (w64 (by have := numV_range (gb1 hbf); omega) (by omega))) rfl fun a F => ?_
 refine rT 23 F rfl (by kernel_rfl) pq rfl hS (fun w hS => x_buildS (cells := #[.int .i64 (gi (gf dl 0).2 0), .int .i64 (gi (gf dl 0).2 1), .int .i64 (gi (gf dl 0).2 2), .int .i64 (numV (gf dl 1).2), .slice none 0 0, .slice none 0 0]) (places := #[(0, 1), (1, 1), (2, 1), (3, 1), (4, 1), (5, 1)]) Tryz.underlying26 ty26 (by kernel_rfl) (by simp only [bM, F.t 65 rfl, F.t 72 rfl, F.t 79 rfl, F.t 81 rfl] <;> rfl) rfl) rfl fun a F => ?_
 refine r_do 24 rfl (by kernel_rfl) rfl rfl ?_
 refine w_alloc 8 F H rfl ty26 ?_
 clear F H; intro a w b8 F H
 refine aN (SL.of H (sub_cons (sub_cons (sub_cons (sub_cons (sub_cons (sub_cons (sub_cons (sub_cons (sub_cons (sub_cons (sub_nil _) 2501 rfl) 2500 rfl) 2499 rfl) 2001 rfl) 1501 rfl) 1500 rfl) 1499 rfl) 1001 rfl) 25 rfl) 901 rfl)) fun hS => ?_
 refine r_do 25 rfl (by kernel_rfl) rfl rfl ?_
 refine w_storeA 8 H ty26 rfl (F.t 8 rfl) (F.t 82 rfl) rfl (by simp [Value.cells, Value.oneCell']) rfl ?_
 clear H; intro w H
 refine aN (SL.of H (sub_cons (sub_cons (sub_cons (sub_cons (sub_cons (sub_cons (sub_cons (sub_cons (sub_cons (sub_cons (sub_nil _) 2501 rfl) 2500 rfl) 2499 rfl) 2001 rfl) 1501 rfl) 1500 rfl) 1499 rfl) 1001 rfl) 25 rfl) 901 rfl)) fun hS => ?_
 refine r_end (by kernel_rfl) ?_; clear hS
 refine hK16 _ _ ?_
 refine wp_seq_k fun _ hK17 => ?_
 refine sr fun _ hK18 => ?_
 have H := H.row0 60 (Rep.int .i64) 3
 have H := H.row0 61 ChgE 66
 refine la F rfl (x_assign rfl) fun a F => ?_
 refine wn (hK18 _ _ ?_)
 refine wp_block ?_
 refine wp_loop_ghost (fun n_ a w => ∃ k : Nat, ∃ An : Option Addr, ∃ cn : Nat, ∃ ns : List Int, ∃ Ac : Option Addr, ∃ cc : Nat, ∃ cs : List ChangeD, ∃ okc : Nat → Prop, n_ = dl.length - k ∧ (2 ≤ k) ∧ (k ≤ dl.length) ∧ (MInv dl k ns cs) ∧ (Byte ns) ∧ (∀ c ∈ cs, ChangeB c) ∧ (ns.length ≤ 2000 * k) ∧ (cs.length ≤ k) ∧ (∀ kb, okc kb → w0.heap.size ≤ kb) ∧ (k = 2 → ns = []) ∧ Fr 147 a [(0, .slice A bs.length c), (2, .pointer (some ⟨b2, 0, none⟩)), (4, .slice Ar25 dl.length cr25), (8, .pointer (some ⟨b8, 0, none⟩)), (9, .int .i64 (k : Int))] ∧ Hp (fun _ => False) w0 w [(901, .rd_ (.int .u8) A bs c (fun k => k < w0.heap.size)), (2, .blk b2 (.cells #[.int .i64 0, .int .i64 0, .int .i64 0, .int .i64 0, .slice none 0 0, .slice none 0 0] 26 (0, 0))), (25, .rd_ FE Ar25 dl cr25 (fun kb => okr25 kb ∨ (Value.slice Ar25 dl.length cr25).ownBlock = some kb)), (1001, .rd_ (.int .u8) (fA1) (gf dl 0).2 fc1 (fun kb => okr25 kb ∨ (Value.slice Ar25 dl.length cr25).ownBlock = some kb)), (1499, .cels (adr Ar25 (Int.toNat 0 * 2)) #[.int .i64 (gf dl 0).1, .slice fA1 (gf dl 0).2.length fc1]), (1500, .cel (adr Ar25 (Int.toNat 0 * 2)) (.int .i64 (gf dl 0).1)), (1501, .cel (adr Ar25 (Int.toNat 0 * 2 + 1)) (.slice fA1 (gf dl 0).2.length fc1)), (2001, .rd_ (.int .u8) (fA2) (gf dl 1).2 fc2 (fun kb => okr25 kb ∨ (Value.slice Ar25 dl.length cr25).ownBlock = some kb)), (2499, .cels (adr Ar25 (Int.toNat 1 * 2)) #[.int .i64 (gf dl 1).1, .slice fA2 (gf dl 1).2.length fc2]), (2500, .cel (adr Ar25 (Int.toNat 1 * 2)) (.int .i64 (gf dl 1).1)), (2501, .cel (adr Ar25 (Int.toNat 1 * 2 + 1)) (.slice fA2 (gf dl 1).2.length fc2)), (8, .blk b8 (.cells #[.int .i64 (gi (gf dl 0).2 0), .int .i64 (gi (gf dl 0).2 1), .int .i64 (gi (gf dl 0).2 2), .int .i64 (numV (gf dl 1).2), .slice An ns.length cn, .slice Ac cs.length cc] 26 (0, 0))), (60, .row (.int .i64) 3 (.slice An ns.length cn) ns (fun _ => False)), (61, .row ChgE 66 (.slice Ac cs.length cc) cs okc)]) (dl.length - 2) ?_ ?_
 ·exact ⟨2, none, 0, [], none, 0, [], (fun _ => False), rfl, by omega, by omega, MInv.start2 dl, Byte.nil, (fun c hc => by cases hc), by simp, by simp, (fun kb h => h.elim), (fun _ => rfl), (((((F.bare.add F 9 rfl).add F 8 rfl).add F 4 rfl).add F 2 rfl).add F 0 rfl), H.sub _ (sub_cons (sub_cons (sub_cons (sub_cons (sub_cons (sub_cons (sub_cons (sub_cons (sub_cons (sub_cons (sub_cons (sub_cons (sub_cons (sub_cons (sub_nil _) 61 rfl) 60 rfl) 8 rfl) 2501 rfl) 2500 rfl) 2499 rfl) 2001 rfl) 1501 rfl) 1500 rfl) 1499 rfl) 1001 rfl) 25 rfl) 2 rfl) 901 rfl)⟩
 rintro _ a w ⟨k, An, cn, ns, Ac, cc, cs, okc, rfl, hq0_0, hq0_1, hq0_2, hq0_3, hq0_4, hq0_5, hq0_6, hq0_7, hq0_8, F, H⟩
 refine wp_seq_k fun _ hK19 => ?_
 refine sr fun _ hK20 => ?_
 refine la F rfl (x_move (F.t 9 rfl)) fun a F => ?_
 refine la F rfl (x_move (F.t 4 rfl)) fun a F => ?_
 refine la F rfl (x_len_slice Tryz.underlying60 (F.t 84 rfl)) fun a F => ?_
 refine la F rfl (x_lss (F.t 83 rfl) (F.t 85 rfl)) fun a F => ?_
 refine wn (hK20 _ _ ?_)
 refine wp_cond_split (F.t 86 rfl) (fun hc86 => ?_) (fun hc86 => ?_)
 ·have hk86_7 := hc86; try simp only [bL] at hc86
  refine wp_skip ?_
  refine hK19 _ _ ?_
  refine wp_seq_k fun _ hK21 => ?_
  refine wp_block ?_
  refine wp_seq_k fun _ hK22 => ?_
  refine sr fun _ hK23 => ?_
  refine la F rfl (x_move (F.t 9 rfl)) fun a F => ?_
  refine la F rfl (x_eql (F.t 89 rfl) rfl) fun a F => ?_
  refine wn (hK23 _ _ ?_)
  refine wp_cond_split (F.t 90 rfl) (fun hc90 => ?_) (fun hc90 => ?_)
  ·have hk90_8 := hc90; try simp only [bL] at hc90
   have hk2 : k = 2 := by omega
   have hns := hq0_8 hk2
   obtain ⟨fA3, fc3, hfr3, hf3_0, hf3_1, hfw3⟩ := Rd.fld ((H.rd 25 rfl)) (gf_some (xs := dl) (i := 2) (by omega) (by omega))
   have H := H.subrd 25 rfl 3001 hfr3 (fun _ h => h)
   have H := H.subcels 25 rfl 3499 hfw3 (Rd.inok ((H.rd 25 rfl)) (by omega) _)
   have H := H.subcel 25 rfl 3500 hf3_0 (Rd.inok ((H.rd 25 rfl)) (by omega) _)
   have H := H.subcel 25 rfl 3501 hf3_1 (Rd.inok ((H.rd 25 rfl)) (by omega) _)
   have hm2 := hfew.2 _ (List.mem_of_getElem? (gf_some (xs := dl) (i := 2) (by omega) (by omega)))
   refine wp_seq_k fun _ hK24 => ?_
   refine sr fun _ hK25 => ?_
   refine la F rfl (x_assign rfl) fun a F => ?_
   refine wn (hK25 _ _ ?_)
   refine wp_block ?_
   refine wp_loop_ghost (fun n_ a w => ∃ j : Nat, ∃ Aj : Option Addr, ∃ cj : Nat, ∃ l : List Int, n_ = (gf dl 2).2.length - j ∧ (j ≤ (gf dl 2).2.length) ∧ (l = ns ++ (gf dl 2).2.take j) ∧ Fr 147 a [(0, .slice A bs.length c), (2, .pointer (some ⟨b2, 0, none⟩)), (4, .slice Ar25 dl.length cr25), (8, .pointer (some ⟨b8, 0, none⟩)), (9, .int .i64 (k : Int)), (10, .int .i64 (j : Int))] ∧ Hp (fun _ => False) w0 w [(901, .rd_ (.int .u8) A bs c (fun k => k < w0.heap.size)), (2, .blk b2 (.cells #[.int .i64 0, .int .i64 0, .int .i64 0, .int .i64 0, .slice none 0 0, .slice none 0 0] 26 (0, 0))), (25, .rd_ FE Ar25 dl cr25 (fun kb => okr25 kb ∨ (Value.slice Ar25 dl.length cr25).ownBlock = some kb)), (1001, .rd_ (.int .u8) (fA1) (gf dl 0).2 fc1 (fun kb => okr25 kb ∨ (Value.slice Ar25 dl.length cr25).ownBlock = some kb)), (1499, .cels (adr Ar25 (Int.toNat 0 * 2)) #[.int .i64 (gf dl 0).1, .slice fA1 (gf dl 0).2.length fc1]), (1500, .cel (adr Ar25 (Int.toNat 0 * 2)) (.int .i64 (gf dl 0).1)), (1501, .cel (adr Ar25 (Int.toNat 0 * 2 + 1)) (.slice fA1 (gf dl 0).2.length fc1)), (2001, .rd_ (.int .u8) (fA2) (gf dl 1).2 fc2 (fun kb => okr25 kb ∨ (Value.slice Ar25 dl.length cr25).ownBlock = some kb)), (2499, .cels (adr Ar25 (Int.toNat 1 * 2)) #[.int .i64 (gf dl 1).1, .slice fA2 (gf dl 1).2.length fc2]), (2500, .cel (adr Ar25 (Int.toNat 1 * 2)) (.int .i64 (gf dl 1).1)), (2501, .cel (adr Ar25 (Int.toNat 1 * 2 + 1)) (.slice fA2 (gf dl 1).2.length fc2)), (8, .blk b8 (.cells #[.int .i64 (gi (gf dl 0).2 0), .int .i64 (gi (gf dl 0).2 1), .int .i64 (gi (gf dl 0).2 2), .int .i64 (numV (gf dl 1).2), .slice Aj l.length cj, .slice Ac cs.length cc] 26 (0, 0))), (60, .row (.int .i64) 3 (.slice Aj l.length cj) l (fun _ => False)), (61, .row ChgE 66 (.slice Ac cs.length cc) cs okc), (3001, .rd_ (.int .u8) (fA3) (gf dl 2).2 fc3 (fun kb => okr25 kb ∨ (Value.slice Ar25 dl.length cr25).ownBlock = some kb)), (3499, .cels (adr Ar25 (Int.toNat 2 * 2)) #[.int .i64 (gf dl 2).1, .slice fA3 (gf dl 2).2.length fc3]), (3500, .cel (adr Ar25 (Int.toNat 2 * 2)) (.int .i64 (gf dl 2).1)), (3501, .cel (adr Ar25 (Int.toNat 2 * 2 + 1)) (.slice fA3 (gf dl 2).2.length fc3))]) ((gf dl 2).2.length) ?_ ?_
   ·exact ⟨0, An, cn, ns, rfl, by omega, by simp, ((((((F.bare.add F 10 rfl).add F 9 rfl).add F 8 rfl).add F 4 rfl).add F 2 rfl).add F 0 rfl), H.sub _ (sub_cons (sub_cons (sub_cons (sub_cons (sub_cons (sub_cons (sub_cons (sub_cons (sub_cons (sub_cons (sub_cons (sub_cons (sub_cons (sub_cons (sub_cons (sub_cons (sub_cons (sub_cons (sub_nil _) 3501 rfl) 3500 rfl) 3499 rfl) 3001 rfl) 61 rfl) 60 rfl) 8 rfl) 2501 rfl) 2500 rfl) 2499 rfl) 2001 rfl) 1501 rfl) 1500 rfl) 1499 rfl) 1001 rfl) 25 rfl) 2 rfl) 901 rfl)⟩
   rintro _ a w ⟨j, Aj, cj, l, rfl, hq2_0, hq2_1, F, H⟩
   have hlj := hq0_5
   have hll : l.length ≤ 400000 + 2000 := by rw [hq2_1, List.length_append, List.length_take]; have := hfew.1; omega
   refine wp_seq_k fun _ hK26 => ?_
   refine sr fun _ hK27 => ?_
   refine la F rfl (x_move (F.t 10 rfl)) fun a F => ?_
   refine la F rfl (x_move (F.t 4 rfl)) fun a F => ?_
   refine la F rfl (x_iaddr_A Tryz.underlying60 ty57 ((H.rd 25 rfl)) (F.t 92 rfl) rfl (by omega) (by omega) _) fun a F => ?_
   refine la F rfl (x_faddrA ((H.rd 25 rfl)) (by omega) _ Tryz.underlying57 rfl ty27 (by decide) (F.t 93 rfl) rfl) fun a F => ?_
   refine la F rfl (x_load1 ty27 (F.t 94 rfl) (H.holds 3501 _ rfl)) fun a F => ?_
   refine la F rfl (x_len_slice Tryz.underlying27 (F.t 95 rfl)) fun a F => ?_
   refine la F rfl (x_lss (F.t 91 rfl) (F.t 96 rfl)) fun a F => ?_
   refine wn (hK27 _ _ ?_)
   refine wp_cond_split (F.t 97 rfl) (fun hc97 => ?_) (fun hc97 => ?_)
   ·have hk97_9 := hc97; try simp only [bL] at hc97
    refine wp_skip ?_
    refine hK26 _ _ ?_
    refine wp_seq_k fun _ hK28 => ?_
    refine wp_block ?_
    refine r_start [(901, .rd_ (.int .u8) A bs c (fun k => k < w0.heap.size)), (25, .rd_ FE Ar25 dl cr25 (fun kb => okr25 kb ∨ (Value.slice Ar25 dl.length cr25).ownBlock = some kb)), (1001, .rd_ (.int .u8) (fA1) (gf dl 0).2 fc1 (fun kb => okr25 kb ∨ (Value.slice Ar25 dl.length cr25).ownBlock = some kb)), (1499, .cels (adr Ar25 (Int.toNat 0 * 2)) #[.int .i64 (gf dl 0).1, .slice fA1 (gf dl 0).2.length fc1]), (1500, .cel (adr Ar25 (Int.toNat 0 * 2)) (.int .i64 (gf dl 0).1)), (1501, .cel (adr Ar25 (Int.toNat 0 * 2 + 1)) (.slice fA1 (gf dl 0).2.length fc1)), (2001, .rd_ (.int .u8) (fA2) (gf dl 1).2 fc2 (fun kb => okr25 kb ∨ (Value.slice Ar25 dl.length cr25).ownBlock = some kb)), (2499, .cels (adr Ar25 (Int.toNat 1 * 2)) #[.int .i64 (gf dl 1).1, .slice fA2 (gf dl 1).2.length fc2]), (2500, .cel (adr Ar25 (Int.toNat 1 * 2)) (.int .i64 (gf dl 1).1)), (2501, .cel (adr Ar25 (Int.toNat 1 * 2 + 1)) (.slice fA2 (gf dl 1).2.length fc2)), (3001, .rd_ (.int .u8) (fA3) (gf dl 2).2 fc3 (fun kb => okr25 kb ∨ (Value.slice Ar25 dl.length cr25).ownBlock = some kb)), (3499, .cels (adr Ar25 (Int.toNat 2 * 2)) #[.int .i64 (gf dl 2).1, .slice fA3 (gf dl 2).2.length fc3]), (3500, .cel (adr Ar25 (Int.toNat 2 * 2)) (.int .i64 (gf dl 2).1)), (3501, .cel (adr Ar25 (Int.toNat 2 * 2 + 1)) (.slice fA3 (gf dl 2).2.length fc3))] (by kernel_rfl) H fun H => ?_
    have hS : SL [(901, .rd_ (.int .u8) A bs c (fun k => k < w0.heap.size)), (25, .rd_ FE Ar25 dl cr25 (fun kb => okr25 kb ∨ (Value.slice Ar25 dl.length cr25).ownBlock = some kb)), (1001, .rd_ (.int .u8) (fA1) (gf dl 0).2 fc1 (fun kb => okr25 kb ∨ (Value.slice Ar25 dl.length cr25).ownBlock = some kb)), (1499, .cels (adr Ar25 (Int.toNat 0 * 2)) #[.int .i64 (gf dl 0).1, .slice fA1 (gf dl 0).2.length fc1]), (1500, .cel (adr Ar25 (Int.toNat 0 * 2)) (.int .i64 (gf dl 0).1)), (1501, .cel (adr Ar25 (Int.toNat 0 * 2 + 1)) (.slice fA1 (gf dl 0).2.length fc1)), (2001, .rd_ (.int .u8) (fA2) (gf dl 1).2 fc2 (fun kb => okr25 kb ∨ (Value.slice Ar25 dl.length cr25).ownBlock = some kb)), (2499, .cels (adr Ar25 (Int.toNat 1 * 2)) #[.int .i64 (gf dl 1).1, .slice fA2 (gf dl 1).2.length fc2]), (2500, .cel (adr Ar25 (Int.toNat 1 * 2)) (.int .i64 (gf dl 1).1)), (2501, .cel (adr Ar25 (Int.toNat 1 * 2 + 1)) (.slice fA2 (gf dl 1).2.length fc2)), (3001, .rd_ (.int .u8) (fA3) (gf dl 2).2 fc3 (fun kb => okr25 kb ∨ (Value.slice Ar25 dl.length cr25).ownBlock = some kb)), (3499, .cels (adr Ar25 (Int.toNat 2 * 2)) #[.int .i64 (gf dl 2).1, .slice fA3 (gf dl 2).2.length fc3]), (3500, .cel (adr Ar25 (Int.toNat 2 * 2)) (.int .i64 (gf dl 2).1)), (3501, .cel (adr Ar25 (Int.toNat 2 * 2 + 1)) (.slice fA3 (gf dl 2).2.length fc3))] _ := SL.of H (sub_cons (sub_cons (sub_cons (sub_cons (sub_cons (sub_cons (sub_cons (sub_cons (sub_cons (sub_cons (sub_cons (sub_cons (sub_cons (sub_cons (sub_nil _) 3501 rfl) 3500 rfl) 3499 rfl) 3001 rfl) 2501 rfl) 2500 rfl) 2499 rfl) 2001 rfl) 1501 rfl) 1500 rfl) 1499 rfl) 1001 rfl) 25 rfl) 901 rfl)
    refine rT 0 F rfl (by kernel_rfl) pq rfl hS (fun w hS => x_faddr Tryz.underlying26 rfl ty23 (by decide) (F.t 8 rfl) rfl) rfl fun a F => ?_
    refine rT 2 F rfl (by kernel_rfl) pq rfl hS (fun w hS => x_move (F.t 4 rfl)) rfl fun a F => ?_
    refine rT 3 F rfl (by kernel_rfl) pq rfl hS (fun w hS => x_iaddr_A Tryz.underlying60 ty57 ((H.rd 25 rfl)) (F.t 102 rfl) rfl (by omega) (by omega) _) rfl fun a F => ?_
    refine rT 4 F rfl (by kernel_rfl) pq rfl hS (fun w hS => x_faddrA ((SL.rd hS 25 rfl)) (by omega) _ Tryz.underlying57 rfl ty27 (by decide) (F.t 103 rfl) rfl) rfl fun a F => ?_
    refine rT 5 F rfl (by kernel_rfl) pq rfl hS (fun w hS => x_load1 ty27 (F.t 104 rfl) (hS 3501 _ rfl)) rfl fun a F => ?_
    refine rT 6 F rfl (by kernel_rfl) pq rfl hS (fun w hS => x_move (F.t 10 rfl)) rfl fun a F => ?_
    refine rT 7 F rfl (by kernel_rfl) pq rfl hS (fun w hS => x_iaddr_A Tryz.underlying27 ty5 ((H.rd 3001 rfl)) (F.t 105 rfl) (F.t 106 rfl) (by omega) (by omega) _) rfl fun a F => ?_
    refine rT 8 F rfl (by kernel_rfl) pq rfl hS (fun w hS => x_load1 ty5 (F.t 107 rfl) (((SL.rd hS 3001 rfl)).cellA (gi_some (i := (j : Int)) (by omega) (by omega)))) rfl fun a F => ?_
    refine rT 9 F rfl (by kernel_rfl) pq rfl hS (fun w hS => x_conv Tryz.underlying3 ⟨_, Tryz.underlying5⟩ (F.t 108 rfl) (w64 (by have := ((gb2 hbf).gi (j : Int)); omega) (by have := ((gb2 hbf).gi (j : Int)); omega))) rfl fun a F => ?_
    refine r_do2 1 10 rfl rfl (by kernel_rfl) rfl rfl rfl rfl ?_ ?_
    ·
     refine w_at F (x_load1 ty23 (F.t 100 rfl) (blk_cell (H.at 8 rfl) 4 rfl)) rfl rfl ?_
     clear F; intro a F
     refine aN (SL.of H (sub_cons (sub_cons (sub_cons (sub_cons (sub_cons (sub_cons (sub_cons (sub_cons (sub_cons (sub_cons (sub_cons (sub_cons (sub_cons (sub_cons (sub_nil _) 3501 rfl) 3500 rfl) 3499 rfl) 3001 rfl) 2501 rfl) 2500 rfl) 2499 rfl) 2001 rfl) 1501 rfl) 1500 rfl) 1499 rfl) 1001 rfl) 25 rfl) 901 rfl)) fun hS => ?_
     refine r_do 10 rfl (by kernel_rfl) rfl rfl ?_
     refine w_lit 950 (enc := Value.int .i64) (h1 := fun _ => rfl) ([(gi (gf dl 2).2 (j : Int))]) F H rfl Tryz.underlying23 ty3 (by simp only [bM, F.t 109 rfl]; rfl) rfl (by decide) (by decide) (by kernel_rfl) ?_
     clear F H; intro a w b110 F H
     refine aN (SL.of H (sub_cons (sub_cons (sub_cons (sub_cons (sub_cons (sub_cons (sub_cons (sub_cons (sub_cons (sub_cons (sub_cons (sub_cons (sub_cons (sub_cons (sub_nil _) 3501 rfl) 3500 rfl) 3499 rfl) 3001 rfl) 2501 rfl) 2500 rfl) 2499 rfl) 2001 rfl) 1501 rfl) 1500 rfl) 1499 rfl) 1001 rfl) 25 rfl) 901 rfl)) fun hS => ?_
     refine r_do 11 rfl (by kernel_rfl) rfl rfl ?_
     refine w_append 60 950 (xs := l) (ys := ([(gi (gf dl 2).2 (j : Int))])) F H rfl Tryz.underlying23 ty3 rfl rfl rfl rfl (Row.rd (ok' := fun k_ => (fun _ => False) k_ ∨ (.slice (some ⟨b110, 0, none⟩) ([(gi (gf dl 2).2 (j : Int))]).length ([(gi (gf dl 2).2 (j : Int))]).length : Value).ownBlock = some k_) (H.row 950 rfl) (fun _ hk_ _ => .inl hk_) (fun _ hk_ => .inr hk_)) (by rintro k_ (hk_ | hk_); exact .inr hk_; exact .inl hk_) (F.t 101 rfl) (F.t 110 rfl) (by simp only [lN] at *; omega) (by simp only [lN, maxLen] at *; omega) (fun _ => False) (fun w' v' h => row_flat h _) (fun k_ hk_ => hk_.elim) ?_
     clear F H; intro a w v111 F H
     refine aN (SL.of H (sub_cons (sub_cons (sub_cons (sub_cons (sub_cons (sub_cons (sub_cons (sub_cons (sub_cons (sub_cons (sub_cons (sub_cons (sub_cons (sub_cons (sub_nil _) 3501 rfl) 3500 rfl) 3499 rfl) 3001 rfl) 2501 rfl) 2500 rfl) 2499 rfl) 2001 rfl) 1501 rfl) 1500 rfl) 1499 rfl) 1001 rfl) 25 rfl) 901 rfl)) fun hS => ?_
     obtain ⟨A111, c111, rfl⟩ := (H.row 60 rfl).form
     refine rT 12 F rfl (by kernel_rfl) pq rfl hS (fun w hS => x_faddr Tryz.underlying26 rfl ty23 (by decide) (F.t 8 rfl) rfl) rfl fun a F => ?_
     refine r_do 13 rfl (by kernel_rfl) rfl rfl ?_
     refine w_store 8 H ty23 rfl (F.t 112 rfl) (F.t 111 rfl) rfl (one1 rfl rfl) (by first | decide | exact Nat.le_of_ble_eq_true rfl) ?_
     clear H; intro w H
     refine aN (SL.of H (sub_cons (sub_cons (sub_cons (sub_cons (sub_cons (sub_cons (sub_cons (sub_cons (sub_cons (sub_cons (sub_cons (sub_cons (sub_cons (sub_cons (sub_nil _) 3501 rfl) 3500 rfl) 3499 rfl) 3001 rfl) 2501 rfl) 2500 rfl) 2499 rfl) 2001 rfl) 1501 rfl) 1500 rfl) 1499 rfl) 1001 rfl) 25 rfl) 901 rfl)) fun hS => ?_
     refine r_end (by kernel_rfl) ?_; clear hS
     refine hK28 _ _ ?_
     refine wp_region_lit ?_
     refine la F rfl (x_move (F.t 10 rfl)) fun a F => ?_
     refine la F rfl (x_add (F.t 98 rfl) rfl (w64 (by omega) (by omega))) fun a F => ?_
     refine la F rfl (x_assign (F.t 99 rfl)) fun a F => ?_
     refine wpList_nil ?_
     exact ⟨_, by omega, ⟨j + 1, A111, c111, (l ++ [(gi (gf dl 2).2 (j : Int))]), rfl, by omega, ghost_step hq2_1 (by omega), ((((((F.bare.add F 10 rfl).add F 9 rfl).add F 8 rfl).add F 4 rfl).add F 2 rfl).add F 0 rfl), H.sub _ (sub_cons (sub_cons (sub_cons (sub_cons (sub_cons (sub_cons (sub_cons (sub_cons (sub_cons (sub_cons (sub_cons (sub_cons (sub_cons (sub_cons (sub_cons (sub_cons (sub_cons (sub_cons (sub_nil _) 3501 rfl) 3500 rfl) 3499 rfl) 3001 rfl) 61 rfl) 60 rfl) 8 rfl) 2501 rfl) 2500 rfl) 2499 rfl) 2001 rfl) 1501 rfl) 1500 rfl) 1499 rfl) 1001 rfl) 25 rfl) 2 rfl) 901 rfl)⟩⟩
    ·
     refine w_lit 950 (enc := Value.int .i64) (h1 := fun _ => rfl) ([(gi (gf dl 2).2 (j : Int))]) F H rfl Tryz.underlying23 ty3 (by simp only [bM, F.t 109 rfl]; rfl) rfl (by decide) (by decide) (by kernel_rfl) ?_
     clear F H; intro a w b110 F H
     refine aN (SL.of H (sub_cons (sub_cons (sub_cons (sub_cons (sub_cons (sub_cons (sub_cons (sub_cons (sub_cons (sub_cons (sub_cons (sub_cons (sub_cons (sub_cons (sub_nil _) 3501 rfl) 3500 rfl) 3499 rfl) 3001 rfl) 2501 rfl) 2500 rfl) 2499 rfl) 2001 rfl) 1501 rfl) 1500 rfl) 1499 rfl) 1001 rfl) 25 rfl) 901 rfl)) fun hS => ?_
     refine r_do 1 rfl (by kernel_rfl) rfl rfl ?_
     refine w_at F (x_load1 ty23 (F.t 100 rfl) (blk_cell (H.at 8 rfl) 4 rfl)) rfl rfl ?_
     clear F; intro a F
     refine aN (SL.of H (sub_cons (sub_cons (sub_cons (sub_cons (sub_cons (sub_cons (sub_cons (sub_cons (sub_cons (sub_cons (sub_cons (sub_cons (sub_cons (sub_cons (sub_nil _) 3501 rfl) 3500 rfl) 3499 rfl) 3001 rfl) 2501 rfl) 2500 rfl) 2499 rfl) 2001 rfl) 1501 rfl) 1500 rfl) 1499 rfl) 1001 rfl) 25 rfl) 901 rfl)) fun hS => ?_
     refine r_do 11 rfl (by kernel_rfl) rfl rfl ?_
     refine w_append 60 950 (xs := l) (ys := ([(gi (gf dl 2).2 (j : Int))])) F H rfl Tryz.underlying23 ty3 rfl rfl rfl rfl (Row.rd (ok' := fun k_ => (fun _ => False) k_ ∨ (.slice (some ⟨b110, 0, none⟩) ([(gi (gf dl 2).2 (j : Int))]).length ([(gi (gf dl 2).2 (j : Int))]).length : Value).ownBlock = some k_) (H.row 950 rfl) (fun _ hk_ _ => .inl hk_) (fun _ hk_ => .inr hk_)) (by rintro k_ (hk_ | hk_); exact .inr hk_; exact .inl hk_) (F.t 101 rfl) (F.t 110 rfl) (by simp only [lN] at *; omega) (by simp only [lN, maxLen] at *; omega) (fun _ => False) (fun w' v' h => row_flat h _) (fun k_ hk_ => hk_.elim) ?_
     clear F H; intro a w v111 F H
     refine aN (SL.of H (sub_cons (sub_cons (sub_cons (sub_cons (sub_cons (sub_cons (sub_cons (sub_cons (sub_cons (sub_cons (sub_cons (sub_cons (sub_cons (sub_cons (sub_nil _) 3501 rfl) 3500 rfl) 3499 rfl) 3001 rfl) 2501 rfl) 2500 rfl) 2499 rfl) 2001 rfl) 1501 rfl) 1500 rfl) 1499 rfl) 1001 rfl) 25 rfl) 901 rfl)) fun hS => ?_
     obtain ⟨A111, c111, rfl⟩ := (H.row 60 rfl).form
     refine rT 12 F rfl (by kernel_rfl) pq rfl hS (fun w hS => x_faddr Tryz.underlying26 rfl ty23 (by decide) (F.t 8 rfl) rfl) rfl fun a F => ?_
     refine r_do 13 rfl (by kernel_rfl) rfl rfl ?_
     refine w_store 8 H ty23 rfl (F.t 112 rfl) (F.t 111 rfl) rfl (one1 rfl rfl) (by first | decide | exact Nat.le_of_ble_eq_true rfl) ?_
     clear H; intro w H
     refine aN (SL.of H (sub_cons (sub_cons (sub_cons (sub_cons (sub_cons (sub_cons (sub_cons (sub_cons (sub_cons (sub_cons (sub_cons (sub_cons (sub_cons (sub_cons (sub_nil _) 3501 rfl) 3500 rfl) 3499 rfl) 3001 rfl) 2501 rfl) 2500 rfl) 2499 rfl) 2001 rfl) 1501 rfl) 1500 rfl) 1499 rfl) 1001 rfl) 25 rfl) 901 rfl)) fun hS => ?_
     refine r_end (by kernel_rfl) ?_; clear hS
     refine hK28 _ _ ?_
     refine wp_region_lit ?_
     refine la F rfl (x_move (F.t 10 rfl)) fun a F => ?_
     refine la F rfl (x_add (F.t 98 rfl) rfl (w64 (by omega) (by omega))) fun a F => ?_
     refine la F rfl (x_assign (F.t 99 rfl)) fun a F => ?_
     refine wpList_nil ?_
     exact ⟨_, by omega, ⟨j + 1, A111, c111, (l ++ [(gi (gf dl 2).2 (j : Int))]), rfl, by omega, ghost_step hq2_1 (by omega), ((((((F.bare.add F 10 rfl).add F 9 rfl).add F 8 rfl).add F 4 rfl).add F 2 rfl).add F 0 rfl), H.sub _ (sub_cons (sub_cons (sub_cons (sub_cons (sub_cons (sub_cons (sub_cons (sub_cons (sub_cons (sub_cons (sub_cons (sub_cons (sub_cons (sub_cons (sub_cons (sub_cons (sub_cons (sub_cons (sub_nil _) 3501 rfl) 3500 rfl) 3499 rfl) 3001 rfl) 61 rfl) 60 rfl) 8 rfl) 2501 rfl) 2500 rfl) 2499 rfl) 2001 rfl) 1501 rfl) 1500 rfl) 1499 rfl) 1001 rfl) 25 rfl) 2 rfl) 901 rfl)⟩⟩
   have hk97_10 := hc97; try simp only [bL] at hc97
   obtain rfl : j = (gf dl 2).2.length := by omega
   have hle_ : l = ns ++ (gf dl 2).2 := by rw [hq2_1, List.take_length]
   refine wp_exit ?_
   refine hK24 _ _ ?_
   refine wp_exit ?_
   refine hK21 _ _ ?_
   refine wp_region_lit ?_
   refine la F rfl (x_move (F.t 9 rfl)) fun a F => ?_
   refine la F rfl (x_add (F.t 87 rfl) rfl (w64 (by omega) (by omega))) fun a F => ?_
   refine la F rfl (x_assign (F.t 88 rfl)) fun a F => ?_
   refine wpList_nil ?_
   exact ⟨_, by omega, ⟨k + 1, Aj, cj, l, Ac, cc, cs, okc, rfl, by omega, by omega, hq0_2.nodes3 hc86 hk2 hns hle_, (by rw [hle_]; exact hq0_3.app (gb2 hbf)), hq0_4, (by rw [hle_, List.length_append]; omega), by omega, hq0_7, (fun h => by omega), (((((F.bare.add F 9 rfl).add F 8 rfl).add F 4 rfl).add F 2 rfl).add F 0 rfl), H.sub _ (sub_cons (sub_cons (sub_cons (sub_cons (sub_cons (sub_cons (sub_cons (sub_cons (sub_cons (sub_cons (sub_cons (sub_cons (sub_cons (sub_cons (sub_nil _) 61 rfl) 60 rfl) 8 rfl) 2501 rfl) 2500 rfl) 2499 rfl) 2001 rfl) 1501 rfl) 1500 rfl) 1499 rfl) 1001 rfl) 25 rfl) 2 rfl) 901 rfl)⟩⟩
  have hk90_11 := hc90; try simp only [bL] at hc90
  refine wp_skip ?_
  refine hK22 _ _ ?_
  refine sr fun _ hK29 => ?_
  obtain ⟨fA4, fc4, hfr4, hf4_0, hf4_1, hfw4⟩ := Rd.fld ((H.rd 25 rfl)) (gf_some (xs := dl) (i := (k : Int)) (by omega) (by omega))
  have H := H.subrd 25 rfl 4001 hfr4 (fun _ h => h)
  have H := H.subcels 25 rfl 4499 hfw4 (Rd.inok ((H.rd 25 rfl)) (by omega) _)
  have H := H.subcel 25 rfl 4500 hf4_0 (Rd.inok ((H.rd 25 rfl)) (by omega) _)
  have H := H.subcel 25 rfl 4501 hf4_1 (Rd.inok ((H.rd 25 rfl)) (by omega) _)
  have hmk : gf dl (k : Int) ∈ dl := List.mem_of_getElem? (gf_some (xs := dl) (i := (k : Int)) (by omega) (by omega))
  refine la F rfl (x_move (F.t 4 rfl)) fun a F => ?_
  refine la F rfl (x_move (F.t 9 rfl)) fun a F => ?_
  refine la F rfl (x_iaddr_A Tryz.underlying60 ty57 ((H.rd 25 rfl)) (F.t 114 rfl) (F.t 115 rfl) (by omega) (by omega) _) fun a F => ?_
  refine la F rfl (x_faddrA ((H.rd 25 rfl)) (by omega) _ Tryz.underlying57 rfl ty27 (by decide) (F.t 116 rfl) rfl) fun a F => ?_
  refine la F rfl (x_load1 ty27 (F.t 117 rfl) (H.holds 4501 _ rfl)) fun a F => ?_
  refine lp rfl ?_
  refine w_call F (x_enter Tryz.func43 (by kernel_rfl) rfl (by simp only [bM, F.t 118 rfl] <;> rfl)) (rdecC_calls _ ((H.rd 4001 rfl)) (hbf _ hmk)) rfl rfl ?_
  rintro _ w ⟨x, Ad, cd, g, rfl, hm_, hr_, hD_⟩; refine ⟨_, rfl, ?_⟩; clear F; intro a F; have H := Hp.rowOut H 70 hm_ hr_
  refine la F rfl (x_move (F.t 119 rfl)) fun a F => ?_
  refine la F rfl (x_extract (F.t 113 rfl) rfl) fun a F => ?_
  refine la F rfl (x_extract (F.t 113 rfl) rfl) fun a F => ?_
  refine lp rfl ?_
  refine w_alloc 11 F H rfl ty66 ?_
  clear F H; intro a w b11 F H
  refine lp rfl ?_
  refine w_storeA 11 H ty66 rfl (F.t 11 rfl) (F.t 120 rfl) rfl (by simp [Value.cells, Value.oneCell']) rfl ?_
  clear H; intro w H
  refine la F rfl (x_assign (F.t 121 rfl)) fun a F => ?_
  refine wn (hK29 _ _ ?_)
  refine wp_seq_k fun _ hK30 => ?_
  refine sr fun _ hK31 => ?_
  refine la F rfl (x_move (F.t 12 rfl)) fun a F => ?_
  refine la F rfl (x_neq (F.t 122 rfl) rfl) fun a F => ?_
  refine wn (hK31 _ _ ?_)
  refine wp_cond_split (F.t 123 rfl) (fun hc123 => ?_) (fun hc123 => ?_)
  ·have hk123_12 := hc123; try simp only [bL] at hc123
   have hz : NoM bs := noM_chg3 hdec hc86 (by omega) hD_ hc123
   refine sr fun _ hK32 => ?_
   refine la F rfl (x_buildS (cells := #[.int .i64 0, .int .i64 0, .int .i64 0, .int .i64 0, .slice none 0 0, .slice none 0 0]) (places := #[(0, 1), (1, 1), (2, 1), (3, 1), (4, 1), (5, 1)]) Tryz.underlying26 ty26 (by kernel_rfl) Array.map_empty rfl) fun a F => ?_
   refine lp rfl ?_
   refine w_storeA 2 H ty26 rfl (F.t 2 rfl) (F.t 124 rfl) rfl (by simp [Value.cells, Value.oneCell']) rfl ?_
   clear H; intro w H
   refine la F rfl (x_assign rfl) fun a F => ?_
   refine wn (hK32 _ _ ?_)
   refine wp_ret ?_
   try simp only [Exit.then, Exit.inBlock]
   exact fin_ret F (resct F rfl rfl rfl (H.at 2 rfl) ty26 rfl) ⟨⟨0, 0, 0, 0, [], []⟩, none, 0, none, 0, (fun _ => False), 161, rfl, H.mods, Rd.nil _ _ _, Rd.nil _ _ _, (fun k h => h.elim), DecM.no hz⟩
  have hk123_13 := hc123; try simp only [bL] at hc123
  have hg0 : g = 0 := hc123
  refine wp_skip ?_
  refine hK30 _ _ ?_
  refine wp_region_lit ?_
  have hfr70 : ∀ kb, (Value.slice Ad x.timer.steps.length cd).ownBlock = some kb → w0.heap.size ≤ kb := fun kb h => (H.mine 70 _ rfl kb h).resolve_left (fun h => h)
  have H := H.freeze 70 rfl (fun kb => (Value.slice Ad x.timer.steps.length cd).ownBlock = some kb) (fun kb => ⟨fun h => .inr h, fun h => h.resolve_left id⟩)
  refine la F rfl (x_faddr Tryz.underlying26 rfl ty24 (by decide) (F.t 8 rfl) rfl) fun a F => ?_
  refine la F rfl (x_load1 ty24 (F.t 125 rfl) (blk_cell (H.at 8 rfl) 5 rfl)) fun a F => ?_
  refine la F rfl (x_loadn ty66 (F.t 11 rfl) rfl (blk_whole (H.at 11 rfl))) fun a F => ?_
  refine lp rfl ?_
  refine w_lit1 128 ChgE x #[.int .i64 x.kind, .string (strOfNums x.key), .string (strOfNums x.value), .string (strOfNums x.timer.name), .int .i64 x.timer.ver, .int .u64 x.timer.tick, .int .u64 x.timer.every, .slice Ad x.timer.steps.length cd] (fun kb => (Value.slice Ad x.timer.steps.length cd).ownBlock = some kb) F H rfl Tryz.underlying24 ty66 (by simp only [bM, F.t 127 rfl] <;> rfl) (by decide) (by kernel_rfl) (chg_mk x ((H.rd 70 rfl))) (fun kb hk => ⟨70, _, rfl, hk⟩) ?_
  clear F H; intro a w b128 F hb128_ H
  refine lp rfl ?_
  refine w_append 61 128 (xs := cs) (ys := ([x])) F H rfl Tryz.underlying24 ty66 rfl rfl rfl rfl ((H.rd 128 rfl)) oI (F.t 126 rfl) (F.t 128 rfl) (by simp only [lN] at *; omega) (by simp only [lN, maxLen] at *; omega) (fun kb => okc kb ∨ (fun kb => (fun kb => (Value.slice Ad x.timer.steps.length cd).ownBlock = some kb) kb ∨ kb = b128) kb) (fun w' v' h => h) (by rintro k_ (hk_ | hk_); exact .inl hk_; exact .inr hk_) ?_
  clear F H; intro a w v129 F H
  obtain ⟨A129, c129, rfl⟩ := (H.row 61 rfl).form
  refine la F rfl (x_faddr Tryz.underlying26 rfl ty24 (by decide) (F.t 8 rfl) rfl) fun a F => ?_
  refine lp rfl ?_
  refine w_store 8 H ty24 rfl (F.t 130 rfl) (F.t 129 rfl) rfl (one1 rfl rfl) (by first | decide | exact Nat.le_of_ble_eq_true rfl) ?_
  clear H; intro w H
  refine wn (hK21 _ _ ?_)
  refine wp_region_lit ?_
  refine la F rfl (x_move (F.t 9 rfl)) fun a F => ?_
  refine la F rfl (x_add (F.t 87 rfl) rfl (w64 (by omega) (by omega))) fun a F => ?_
  refine la F rfl (x_assign (F.t 88 rfl)) fun a F => ?_
  refine wpList_nil ?_
  exact ⟨_, by omega, ⟨k + 1, An, cn, ns, A129, c129, (cs ++ [x]), (fun kb => okc kb ∨ (fun kb => (fun kb => (Value.slice Ad x.timer.steps.length cd).ownBlock = some kb) kb ∨ kb = b128) kb), rfl, by omega, by omega, hq0_2.chg3 hc86 (by omega) (hg0 ▸ hD_), hq0_3, (fun c hc => by rcases List.mem_append.1 hc with hc | hc; exact hq0_4 c hc; rw [List.mem_singleton.1 hc]; exact hD_.1), by omega, (by simp only [lN]; omega), (fun kb h => by rcases h with h | h | rfl; exact hq0_7 kb h; exact hfr70 kb h; exact hb128_.resolve_left id), (fun h => by omega), (((((F.bare.add F 9 rfl).add F 8 rfl).add F 4 rfl).add F 2 rfl).add F 0 rfl), H.sub _ (sub_cons (sub_cons (sub_cons (sub_cons (sub_cons (sub_cons (sub_cons (sub_cons (sub_cons (sub_cons (sub_cons (sub_cons (sub_cons (sub_cons (sub_nil _) 61 rfl) 60 rfl) 8 rfl) 2501 rfl) 2500 rfl) 2499 rfl) 2001 rfl) 1501 rfl) 1500 rfl) 1499 rfl) 1001 rfl) 25 rfl) 2 rfl) 901 rfl)⟩⟩
 have hk86_14 := hc86; try simp only [bL] at hc86
 obtain rfl : k = dl.length := by omega
 have hMB : MessageB (rzM dl ns cs) := ⟨u8_fits (gb0 hbf) 0, u8_fits (gb0 hbf) 1, u8_fits (gb0 hbf) 2, (by have := numV_range (gb1 hbf); exact ⟨by show (_ : Int) ≤ numV _; omega, by show numV _ < (_ : Int); omega⟩), (fun n hn => (by have := hq0_3 n hn; exact ⟨by omega, by omega⟩)), hq0_4⟩
 refine wp_exit ?_
 refine hK17 _ _ ?_
 refine sr fun _ hK33 => ?_
 refine la F rfl (x_loadn ty26 (F.t 8 rfl) rfl (blk_whole (H.at 8 rfl))) fun a F => ?_
 refine lp rfl ?_
 refine w_call F (x_enter Tryz.func8 (by kernel_rfl) rfl (by simp only [bM, F.t 132 rfl] <;> rfl)) (rencM_calls (m := (rzM dl ns cs)) _ (Row.rd (ok' := fun k_ => (fun _ => False) k_ ∨ (.slice An ns.length cn : Value).ownBlock = some k_) (H.row 60 rfl) (fun _ hk_ _ => .inl hk_) (fun _ hk_ => .inr hk_)) (Row.rd (ok' := fun k_ => okc k_ ∨ (.slice Ac cs.length cc : Value).ownBlock = some k_) (H.row 61 rfl) (fun _ hk_ _ => .inl hk_) (fun _ hk_ => .inr hk_)) hMB) rfl rfl ?_
 rintro _ w ⟨vr134, rfl, hm_, hr_⟩; refine ⟨_, rfl, ?_⟩; clear F; intro a F; have H := Hp.rowOut H 134 hm_ hr_; obtain ⟨Ar134, cr134, rfl⟩ := (H.row 134 rfl).form
 refine la F rfl (x_move (F.t 133 rfl)) fun a F => ?_
 refine la F rfl (x_extract (F.t 131 rfl) rfl) fun a F => ?_
 refine la F rfl (x_extract (F.t 131 rfl) rfl) fun a F => ?_
 refine la F rfl (x_assign (F.t 134 rfl)) fun a F => ?_
 refine la F rfl (x_assign (F.t 135 rfl)) fun a F => ?_
 refine wn (hK33 _ _ ?_)
 refine wp_seq_k fun _ hK34 => ?_
 refine sr fun _ hK35 => ?_
 refine la F rfl (x_move (F.t 14 rfl)) fun a F => ?_
 refine la F rfl (x_neq (F.t 136 rfl) rfl) fun a F => ?_
 refine la F rfl (x_move (F.t 137 rfl)) fun a F => ?_
 refine split_bool F 138 rfl (fun hb138 => ?_) (fun hb138 => ?_)
 ·have hc138 := hb138; try simp only [bL] at hc138
  have hz : NoM bs := noM_rend hdec hq0_2 (fun h => hc138 h.1)
  refine los F hb138 rfl fun a F => ?_
  refine los F hb138 rfl fun a F => ?_
  refine los F hb138 rfl fun a F => ?_
  refine los F hb138 rfl fun a F => ?_
  refine los F hb138 rfl fun a F => ?_
  refine la F rfl (x_pickT (F.t 138 rfl) hb138 rfl) fun a F => ?_
  refine wn (hK35 _ _ ?_)
  refine wp_cond_true (F.t 144 rfl) ?_
  refine sr fun _ hK36 => ?_
  refine la F rfl (x_buildS (cells := #[.int .i64 0, .int .i64 0, .int .i64 0, .int .i64 0, .slice none 0 0, .slice none 0 0]) (places := #[(0, 1), (1, 1), (2, 1), (3, 1), (4, 1), (5, 1)]) Tryz.underlying26 ty26 (by kernel_rfl) Array.map_empty rfl) fun a F => ?_
  refine lp rfl ?_
  refine w_storeA 2 H ty26 rfl (F.t 2 rfl) (F.t 145 rfl) rfl (by simp [Value.cells, Value.oneCell']) rfl ?_
  clear H; intro w H
  refine la F rfl (x_assign rfl) fun a F => ?_
  refine wn (hK36 _ _ ?_)
  refine wp_ret ?_
  try simp only [Exit.then, Exit.inBlock]
  exact fin_ret F (resct F rfl rfl rfl (H.at 2 rfl) ty26 rfl) ⟨⟨0, 0, 0, 0, [], []⟩, none, 0, none, 0, (fun _ => False), 161, rfl, H.mods, Rd.nil _ _ _, Rd.nil _ _ _, (fun k h => h.elim), DecM.no hz⟩
 have hc138 := hb138; try simp only [bL] at hc138
 refine lgs F hb138 rfl (x_move (F.t 13 rfl)) fun a F => ?_
 refine lgs F hb138 rfl (x_b2s Tryz.underlying27 Tryz.underlying5 Tryz.underlying9 (Row.rd (ok' := fun k_ => (fun _ => False) k_ ∨ (.slice Ar134 (encM (rzM dl ns cs)).length cr134 : Value).ownBlock = some k_) (H.row 134 rfl) (fun _ hk_ _ => .inl hk_) (fun _ hk_ => .inr hk_)) (F.t 139 rfl)) fun a F => ?_
 refine lgs F hb138 rfl (x_move (F.t 0 rfl)) fun a F => ?_
 refine lgs F hb138 rfl (x_b2s Tryz.underlying27 Tryz.underlying5 Tryz.underlying9 ((H.rd 901 rfl)) (F.t 141 rfl)) fun a F => ?_
 refine lgs F hb138 rfl (x_nen (xs := (encM (rzM dl ns cs))) (ys := bs) (F.t 140 rfl) (F.t 142 rfl) (encM_byte hMB) hby) fun a F => ?_
 refine la F rfl (x_pickF (F.t 138 rfl) hb138 (F.t 143 rfl)) fun a F => ?_
 refine wn (hK35 _ _ ?_)
 refine wp_cond_split (F.t 144 rfl) (fun hc144 => ?_) (fun hc144 => ?_)
 ·have hk144_15 := hc144; try simp only [bL] at hc144
  have hz : NoM bs := noM_rend hdec hq0_2 (fun h => hc144 h.2)
  refine sr fun _ hK37 => ?_
  refine la F rfl (x_buildS (cells := #[.int .i64 0, .int .i64 0, .int .i64 0, .int .i64 0, .slice none 0 0, .slice none 0 0]) (places := #[(0, 1), (1, 1), (2, 1), (3, 1), (4, 1), (5, 1)]) Tryz.underlying26 ty26 (by kernel_rfl) Array.map_empty rfl) fun a F => ?_
  refine lp rfl ?_
  refine w_storeA 2 H ty26 rfl (F.t 2 rfl) (F.t 145 rfl) rfl (by simp [Value.cells, Value.oneCell']) rfl ?_
  clear H; intro w H
  refine la F rfl (x_assign rfl) fun a F => ?_
  refine wn (hK37 _ _ ?_)
  refine wp_ret ?_
  try simp only [Exit.then, Exit.inBlock]
  exact fin_ret F (resct F rfl rfl rfl (H.at 2 rfl) ty26 rfl) ⟨⟨0, 0, 0, 0, [], []⟩, none, 0, none, 0, (fun _ => False), 161, rfl, H.mods, Rd.nil _ _ _, Rd.nil _ _ _, (fun k h => h.elim), DecM.no hz⟩
 have hk144_16 := hc144; try simp only [bL] at hc144
 refine wp_skip ?_
 refine hK34 _ _ ?_
 refine sr fun _ hK38 => ?_
 refine la F rfl (x_loadn ty26 (F.t 8 rfl) rfl (blk_whole (H.at 8 rfl))) fun a F => ?_
 refine lp rfl ?_
 refine w_storeA 2 H ty26 rfl (F.t 2 rfl) (F.t 146 rfl) rfl (by simp [Value.cells, Value.oneCell']) rfl ?_
 clear H; intro w H
 refine la F rfl (x_assign rfl) fun a F => ?_
 refine wn (hK38 _ _ ?_)
 refine wp_ret ?_
 try simp only [Exit.then, Exit.inBlock]
 have hE : encME (rzM dl ns cs) = 0 := by first | exact hc144 | exact hc138 | exact hc86 | exact hc57 | exact hc54 | exact hc42 | exact hc35 | exact hc30 | exact hc17
 have hX : encM (rzM dl ns cs) = bs := by first | exact hc144 | exact hc138 | exact hc86 | exact hc57 | exact hc54 | exact hc42 | exact hc35 | exact hc30 | exact hc17
 exact fin_ret F (resct F rfl rfl rfl (H.at 2 rfl) ty26 rfl) ⟨(rzM dl ns cs), An, cn, Ac, cc, (fun k => (Value.slice An ns.length cn).ownBlock = some k ∨ okc k ∨ (Value.slice Ac cs.length cc).ownBlock = some k), 0, rfl, H.mods, Row.rd (H.row 60 rfl) (fun k h _ => h.elim) (fun k h => .inl h), Row.rd (H.row 61 rfl) (fun k h _ => .inr (.inl h)) (fun k h => .inr (.inr h)), (fun k h => by rcases h with h | h | h; exact ⟨(H.mine 60 _ rfl k h).resolve_left id, H.inb 60 _ rfl k (.inl h)⟩; exact ⟨hq0_7 k h, H.inb 61 _ rfl k (.inr h)⟩; exact ⟨(H.mine 61 _ rfl k h).resolve_left id, H.inb 61 _ rfl k (.inl h)⟩), ⟨hMB, .inl ⟨rfl, encME0 hE, hX⟩⟩⟩
end Go.Proofs.YtiiklnghnifmjaaGreatDoor.Act
