/- The document's Decode of steps, walked. -/
import Derived.Test.YtiiklnghnifmjaaGreatDoorRefAZc
import Derived.Test.YtiiklnghnifmjaaGreatDoorActEZc
import Derived.Test.YtiiklnghnifmjaaGreatDoorActTZc
set_option linter.unusedVariables false
set_option maxRecDepth 100000
set_option maxHeartbeats 1000000
set_option linter.unusedSimpArgs false
namespace Go.Proofs.YtiiklnghnifmjaaGreatDoor.Act
open Go.RowKit Go.Proofs.YtiiklnghnifmjaaGreatDoor.Sx Go.Proofs.YtiiklnghnifmjaaGreatDoor.Cod Go.Proofs.YtiiklnghnifmjaaGreatDoor.Num
theorem rnumber_calls (w0 : World) {xs : List Int} (hs : xs.length ≤ 100000000) (hb : Byte xs) : Calls Tryz.prog 104 #[.string (strOfNums xs)] w0 fun e w' => ∃ v, e = .returned (.tuple #[.int .i64 v, .bool (numI xs).isSome]) ∧ Mods (fun _ => False) w0 w' ∧ Fits v ∧ ∀ u, numI xs = some u → v = u := by
 have htl := tOf_len xs
 refine cow Tryz.func104 rfl Tryz.ntmps104 (Nat.le_of_ble_eq_true rfl) fun a F => ?_
 have H := Hp.nil (fun _ => False) w0
 refine sr fun _ hK1 => la F rfl (x_assign rfl) fun a F => la F rfl (x_assign rfl) fun a F => wn (hK1 _ _ (sr fun _ hK2 => la F rfl (x_move (F.t 0 rfl)) fun a F => la F rfl (x_assign (F.t 8 rfl)) fun a F => wn (hK2 _ _ ?_)))
 refine wp_seq_k fun _ hK3 => ?_
 refine sr fun _ hK4 => la F rfl (x_move (F.t 4 rfl)) fun a F => la F rfl (x_len_sn (xs := xs) Tryz.underlying9 (F.t 9 rfl)) fun a F => la F rfl (x_gtr (F.t 10 rfl) rfl) fun a F => la F rfl (x_move (F.t 11 rfl)) fun a F => ?_
 refine split_bool F 12 rfl (fun hb12 => ?_) (fun hb12 => ?_)
 ·have hc12 := hb12; try simp only [bL] at hc12
  refine lgs F hb12 rfl (x_move (F.t 4 rfl)) fun a F => lgs F hb12 rfl (x_idxS (xs := xs) Tryz.underlying9 (F.t 13 rfl) rfl hb (by omega) (by omega)) fun a F => lgs F hb12 rfl (x_eql (F.t 14 rfl) rfl) fun a F => la F rfl (x_pickT (F.t 12 rfl) hb12 (F.t 15 rfl)) fun a F => wn (hK4 _ _ ?_)
  refine wp_cond_split (F.t 16 rfl) (fun hc16 => ?_) (fun hc16 => ?_)
  ·have hk16_1 := hc16; try simp only [bL] at hc16
   have htof := tOf_yes (by omega) hc16
   refine wp_region_lit ?_
   refine la F rfl (x_move (F.t 4 rfl)) fun a F => la F rfl (x_sliceSl (xs := xs) Tryz.underlying9 (F.t 17 rfl) rfl (by omega) (by omega)) fun a F => la F rfl (x_assign (F.t 18 rfl)) fun a F => wn (hK3 _ _ ?_)
   refine wp_seq_k fun _ hK5 => ?_
   refine sr fun _ hK6 => ?_
   have F := FrD.add F F 4 (v := .string (strOfNums (tOf xs))) (by rw [htof]; rfl)
   refine la F rfl (x_move (F.t 4 rfl)) fun a F => la F rfl (x_len_sn (xs := (tOf xs)) Tryz.underlying9 (F.t 19 rfl)) fun a F => la F rfl (x_lss (F.t 20 rfl) rfl) fun a F => la F rfl (x_move (F.t 21 rfl)) fun a F => ?_
   refine split_bool F 22 rfl (fun hb22 => ?_) (fun hb22 => ?_)
   ·have hc22 := hb22; try simp only [bL] at hc22
    have hz := rnum_len hb (.inl (by omega))
    refine los F hb22 rfl fun a F => los F hb22 rfl fun a F => los F hb22 rfl fun a F => la F rfl (x_pickT (F.t 22 rfl) hb22 rfl) fun a F => wn (hK6 _ _ ?_)
    refine wp_cond_true (F.t 26 rfl) ?_
    refine sr fun _ hK7 => la F rfl (x_assign rfl) fun a F => la F rfl (x_assign rfl) fun a F => wn (hK7 _ _ ?_)
    refine wp_ret ?_
    try simp only [Exit.then, Exit.inBlock]
    exact fin_ret F (res2 F rfl rfl rfl) ⟨0, by rw [hz] <;> rfl, H.mods, by decide, fun u hu => by rw [hz] at hu; cases hu⟩
   have hc22 := hb22; try simp only [bL] at hc22
   refine lgs F hb22 rfl (x_move (F.t 4 rfl)) fun a F => lgs F hb22 rfl (x_len_sn (xs := (tOf xs)) Tryz.underlying9 (F.t 23 rfl)) fun a F => lgs F hb22 rfl (x_gtr (F.t 24 rfl) rfl) fun a F => la F rfl (x_pickF (F.t 22 rfl) hb22 (F.t 25 rfl)) fun a F => wn (hK6 _ _ ?_)
   refine wp_cond_split (F.t 26 rfl) (fun hc26 => ?_) (fun hc26 => ?_)
   ·have hk26_2 := hc26; try simp only [bL] at hc26
    have hz := rnum_len hb (.inr (by omega))
    refine sr fun _ hK8 => la F rfl (x_assign rfl) fun a F => la F rfl (x_assign rfl) fun a F => wn (hK8 _ _ ?_)
    refine wp_ret ?_
    try simp only [Exit.then, Exit.inBlock]
    exact fin_ret F (res2 F rfl rfl rfl) ⟨0, by rw [hz] <;> rfl, H.mods, by decide, fun u hu => by rw [hz] at hu; cases hu⟩
   have hk26_3 := hc26; try simp only [bL] at hc26
   refine wp_skip (hK5 _ _ (sr fun _ hK9 => la F rfl (x_assign rfl) fun a F => wn (hK9 _ _ ?_)))
   refine wp_seq_k fun _ hK10 => ?_
   refine sr fun _ hK11 => la F rfl (x_assign rfl) fun a F => wn (hK11 _ _ (wp_block ?_))
   refine wp_loop_ghost (fun n_ a w => ∃ k : Nat, n_ = (tOf xs).length - k ∧ (k ≤ (tOf xs).length) ∧ (∀ j, j < k → 48 ≤ gi (tOf xs) (j : Int) ∧ gi (tOf xs) (j : Int) ≤ 57) ∧ Fr 65 a [(0, .string (strOfNums xs)), (4, .string (strOfNums (tOf xs))), (5, .int .u64 (valD ((tOf xs).take k))), (6, .int .i64 (k : Int))] ∧ Hp (fun _ => False) w0 w []) ((tOf xs).length) ?_ ?_
   ·exact ⟨0, rfl, by omega, fun j hj => by omega, ((((F.bare.add F 6 rfl).add F 5 rfl).add F 4 rfl).add F 0 rfl), H.sub _ (sub_nil _)⟩
   rintro _ a w ⟨k, rfl, hq0_0, hq0_1, F, H⟩
   refine wp_seq_k fun _ hK12 => ?_
   refine sr fun _ hK13 => la F rfl (x_move (F.t 6 rfl)) fun a F => la F rfl (x_move (F.t 4 rfl)) fun a F => la F rfl (x_len_sn (xs := (tOf xs)) Tryz.underlying9 (F.t 28 rfl)) fun a F => la F rfl (x_lss (F.t 27 rfl) (F.t 29 rfl)) fun a F => wn (hK13 _ _ ?_)
   refine wp_cond_split (F.t 30 rfl) (fun hc30 => ?_) (fun hc30 => ?_)
   ·have hk30_4 := hc30; try simp only [bL] at hc30
    refine wp_skip (hK12 _ _ ?_)
    refine wp_seq_k fun _ hK14 => ?_
    refine wp_block ?_
    refine wp_seq_k fun _ hK15 => ?_
    refine sr fun _ hK16 => la F rfl (x_move (F.t 4 rfl)) fun a F => la F rfl (x_move (F.t 6 rfl)) fun a F => la F rfl (x_idxS (xs := (tOf xs)) Tryz.underlying9 (F.t 33 rfl) (F.t 34 rfl) (tOf_byte hb) (by omega) (by omega)) fun a F => la F rfl (x_lss (F.t 35 rfl) rfl) fun a F => la F rfl (x_move (F.t 36 rfl)) fun a F => ?_
    refine split_bool F 37 rfl (fun hb37 => ?_) (fun hb37 => ?_)
    ·have hc37 := hb37; try simp only [bL] at hc37
     have hz := rnum_dig hb (k := k) (by omega) (.inl hc37)
     refine los F hb37 rfl fun a F => los F hb37 rfl fun a F => los F hb37 rfl fun a F => los F hb37 rfl fun a F => la F rfl (x_pickT (F.t 37 rfl) hb37 rfl) fun a F => wn (hK16 _ _ ?_)
     refine wp_cond_true (F.t 42 rfl) ?_
     refine sr fun _ hK17 => la F rfl (x_assign rfl) fun a F => la F rfl (x_assign rfl) fun a F => wn (hK17 _ _ ?_)
     refine wp_ret ?_
     try simp only [Exit.then, Exit.inBlock]
     exact fin_ret F (res2 F rfl rfl rfl) ⟨0, by rw [hz] <;> rfl, H.mods, by decide, fun u hu => by rw [hz] at hu; cases hu⟩
    have hc37 := hb37; try simp only [bL] at hc37
    refine lgs F hb37 rfl (x_move (F.t 4 rfl)) fun a F => lgs F hb37 rfl (x_move (F.t 6 rfl)) fun a F => lgs F hb37 rfl (x_idxS (xs := (tOf xs)) Tryz.underlying9 (F.t 38 rfl) (F.t 39 rfl) (tOf_byte hb) (by omega) (by omega)) fun a F => lgs F hb37 rfl (x_gtr (F.t 40 rfl) rfl) fun a F => la F rfl (x_pickF (F.t 37 rfl) hb37 (F.t 41 rfl)) fun a F => wn (hK16 _ _ ?_)
    refine wp_cond_split (F.t 42 rfl) (fun hc42 => ?_) (fun hc42 => ?_)
    ·have hk42_5 := hc42; try simp only [bL] at hc42
     have hz := rnum_dig hb (k := k) (by omega) (.inr hc42)
     refine sr fun _ hK18 => la F rfl (x_assign rfl) fun a F => la F rfl (x_assign rfl) fun a F => wn (hK18 _ _ ?_)
     refine wp_ret ?_
     try simp only [Exit.then, Exit.inBlock]
     exact fin_ret F (res2 F rfl rfl rfl) ⟨0, by rw [hz] <;> rfl, H.mods, by decide, fun u hu => by rw [hz] at hu; cases hu⟩
    have hk42_6 := hc42; try simp only [bL] at hc42
    refine wp_skip (hK15 _ _ ?_)
    refine wp_region_lit ?_
    refine la F rfl (x_move (F.t 5 rfl)) fun a F => la F rfl (x_mul rfl (F.t 43 rfl) (wu64 (by have := hq0_1 ; have hvb := valD_bound (ds := tOf xs) (k := k) (by omega) hq0_1; have hp := pow19 (k := k) (by omega); omega) (by have := hq0_1 ; have hvb := valD_bound (ds := tOf xs) (k := k) (by omega) hq0_1; have hp := pow19 (k := k) (by omega); omega))) fun a F => la F rfl (x_move (F.t 4 rfl)) fun a F => la F rfl (x_move (F.t 6 rfl)) fun a F => la F rfl (x_idxS (xs := (tOf xs)) Tryz.underlying9 (F.t 45 rfl) (F.t 46 rfl) (tOf_byte hb) (by omega) (by omega)) fun a F => la F rfl (x_sub (F.t 47 rfl) rfl (wu8 (by omega) (by omega))) fun a F => la F rfl (x_conv Tryz.underlying59 ⟨_, Tryz.underlying5⟩ (F.t 48 rfl) (wu64 (by omega) (by omega))) fun a F => la F rfl (x_add (F.t 44 rfl) (F.t 49 rfl) (wu64 (by have := hq0_1 ; have hvb := valD_bound (ds := tOf xs) (k := k) (by omega) hq0_1; have hp := pow19 (k := k) (by omega); omega) (by have := hq0_1 ; have hvb := valD_bound (ds := tOf xs) (k := k) (by omega) hq0_1; have hp := pow19 (k := k) (by omega); omega))) fun a F => ?_
    refine la F rfl (x_assign (F.t 50 rfl)) fun a F => wn (hK14 _ _ ?_)
    refine wp_region_lit ?_
    refine la F rfl (x_move (F.t 6 rfl)) fun a F => la F rfl (x_add (F.t 31 rfl) rfl (w64 (by omega) (by omega))) fun a F => la F rfl (x_assign (F.t 32 rfl)) fun a F => ?_
    refine wpList_nil ?_
    have hFs : Fr 65 a [(0, .string (strOfNums xs)), (4, .string (strOfNums (tOf xs))), (5, .int .u64 (10 * (valD ((tOf xs).take k)) + ((gi (tOf xs) (k : Int)) - 48))), (6, .int .i64 ((k : Int) + 1))] := ((((F.bare.add F 6 rfl).add F 5 rfl).add F 4 rfl).add F 0 rfl)
    rw [valD_step (by omega)] at hFs
    exact ⟨_, by omega, ⟨k + 1, rfl, by omega, dig_step hq0_1 hc37 hc42, hFs, H.sub _ (sub_nil _)⟩⟩
   have hk30_7 := hc30; try simp only [bL] at hc30
   obtain rfl : k = (tOf xs).length := by omega
   rw [List.take_length] at F
   refine wp_exit ?_
   refine hK10 _ _ ?_
   refine wp_seq_k fun _ hK19 => ?_
   refine sr fun _ hK20 => la F rfl (x_move (F.t 5 rfl)) fun a F => la F rfl (x_gtr (F.t 51 rfl) rfl) fun a F => wn (hK20 _ _ ?_)
   refine wp_cond_split (F.t 52 rfl) (fun hc52 => ?_) (fun hc52 => ?_)
   ·have hk52_8 := hc52; try simp only [bL] at hc52
    have hz := rnum_big hb hc52
    refine sr fun _ hK21 => la F rfl (x_assign rfl) fun a F => la F rfl (x_assign rfl) fun a F => wn (hK21 _ _ ?_)
    refine wp_ret ?_
    try simp only [Exit.then, Exit.inBlock]
    exact fin_ret F (res2 F rfl rfl rfl) ⟨0, by rw [hz] <;> rfl, H.mods, by decide, fun u hu => by rw [hz] at hu; cases hu⟩
   have hk52_9 := hc52; try simp only [bL] at hc52
   refine wp_skip (hK19 _ _ (sr fun _ hK22 => la F rfl (x_move (F.t 5 rfl)) fun a F => la F rfl (x_conv Tryz.underlying2 ⟨_, Tryz.underlying59⟩ (F.t 53 rfl) rfl) fun a F => la F rfl (x_assign (F.t 54 rfl)) fun a F => wn (hK22 _ _ ?_)))
   refine wp_seq_k fun _ hK23 => ?_
   refine sr fun _ hK24 => la F rfl (x_move (F.t 4 rfl)) fun a F => la F rfl (x_move (F.t 0 rfl)) fun a F => la F rfl (x_nen (xs := (tOf xs)) (ys := xs) (F.t 55 rfl) (F.t 56 rfl) (tOf_byte hb) hb) fun a F => wn (hK24 _ _ ?_)
   refine wp_cond_split (F.t 57 rfl) (fun hc57 => ?_) (fun hc57 => ?_)
   ·have hk57_10 := hc57; try simp only [bL] at hc57
    have hxof := xOf_neg hc57
    refine wp_region_lit ?_
    refine la F rfl (x_move (F.t 7 rfl)) fun a F => la F rfl (x_neg (F.t 58 rfl) rfl) fun a F => la F rfl (x_assign (F.t 59 rfl)) fun a F => wn (hK23 _ _ (sr fun _ hK25 => ?_))
    have F := FrD.add F F 7 (v := .int .i64 (xOf xs)) (by rw [hxof]; rfl)
    refine la F rfl (x_move (F.t 7 rfl)) fun a F => la F rfl (x_move (F.t 7 rfl)) fun a F => ?_
    refine lp rfl ?_
    refine w_call F (x_enter Tryz.func61 (by kernel_rfl) rfl (by simp only [bM, F.t 61 rfl] <;> rfl)) (text_calls _ (rnum_fin hb).2.2) rfl rfl ?_
    rintro _ w ⟨rfl, hm_⟩; refine ⟨_, rfl, ?_⟩; clear F; intro a F; have H := H.same hm_
    refine la F rfl (x_move (F.t 0 rfl)) fun a F => la F rfl (x_eqn (xs := (itoaI (xOf xs))) (ys := xs) (F.t 62 rfl) (F.t 63 rfl) (itoaI_byte _) hb) fun a F => la F rfl (x_assign (F.t 60 rfl)) fun a F => la F rfl (x_assign (F.t 64 rfl)) fun a F => wn (hK25 _ _ ?_)
    refine wp_ret ?_
    try simp only [Exit.then, Exit.inBlock]
    have hz := rnum_fin hb
    exact fin_ret F (res2 F rfl rfl rfl) ⟨xOf xs, by rw [hz.1] <;> rfl, H.mods, hz.2.2, hz.2.1⟩
   have hk57_11 := hc57; try simp only [bL] at hc57
   have hxof := xOf_pos hc57
   refine wp_skip (hK23 _ _ (sr fun _ hK26 => ?_))
   have F := FrD.add F F 7 (v := .int .i64 (xOf xs)) (by rw [hxof]; rfl)
   refine la F rfl (x_move (F.t 7 rfl)) fun a F => la F rfl (x_move (F.t 7 rfl)) fun a F => ?_
   refine lp rfl ?_
   refine w_call F (x_enter Tryz.func61 (by kernel_rfl) rfl (by simp only [bM, F.t 61 rfl] <;> rfl)) (text_calls _ (rnum_fin hb).2.2) rfl rfl ?_
   rintro _ w ⟨rfl, hm_⟩; refine ⟨_, rfl, ?_⟩; clear F; intro a F; have H := H.same hm_
   refine la F rfl (x_move (F.t 0 rfl)) fun a F => la F rfl (x_eqn (xs := (itoaI (xOf xs))) (ys := xs) (F.t 62 rfl) (F.t 63 rfl) (itoaI_byte _) hb) fun a F => la F rfl (x_assign (F.t 60 rfl)) fun a F => la F rfl (x_assign (F.t 64 rfl)) fun a F => wn (hK26 _ _ ?_)
   refine wp_ret ?_
   try simp only [Exit.then, Exit.inBlock]
   have hz := rnum_fin hb
   exact fin_ret F (res2 F rfl rfl rfl) ⟨xOf xs, by rw [hz.1] <;> rfl, H.mods, hz.2.2, hz.2.1⟩
  have hk16_12 := hc16; try simp only [bL] at hc16
  have htof := tOf_no hc16
  refine wp_skip (hK3 _ _ ?_)
  refine wp_seq_k fun _ hK27 => ?_
  refine sr fun _ hK28 => ?_
  have F := FrD.add F F 4 (v := .string (strOfNums (tOf xs))) (by rw [htof]; rfl)
  refine la F rfl (x_move (F.t 4 rfl)) fun a F => la F rfl (x_len_sn (xs := (tOf xs)) Tryz.underlying9 (F.t 19 rfl)) fun a F => la F rfl (x_lss (F.t 20 rfl) rfl) fun a F => la F rfl (x_move (F.t 21 rfl)) fun a F => ?_
  refine split_bool F 22 rfl (fun hb22 => ?_) (fun hb22 => ?_)
  ·have hc22 := hb22; try simp only [bL] at hc22
   have hz := rnum_len hb (.inl (by omega))
   refine los F hb22 rfl fun a F => los F hb22 rfl fun a F => los F hb22 rfl fun a F => la F rfl (x_pickT (F.t 22 rfl) hb22 rfl) fun a F => wn (hK28 _ _ ?_)
   refine wp_cond_true (F.t 26 rfl) ?_
   refine sr fun _ hK29 => la F rfl (x_assign rfl) fun a F => la F rfl (x_assign rfl) fun a F => wn (hK29 _ _ ?_)
   refine wp_ret ?_
   try simp only [Exit.then, Exit.inBlock]
   exact fin_ret F (res2 F rfl rfl rfl) ⟨0, by rw [hz] <;> rfl, H.mods, by decide, fun u hu => by rw [hz] at hu; cases hu⟩
  have hc22 := hb22; try simp only [bL] at hc22
  refine lgs F hb22 rfl (x_move (F.t 4 rfl)) fun a F => lgs F hb22 rfl (x_len_sn (xs := (tOf xs)) Tryz.underlying9 (F.t 23 rfl)) fun a F => lgs F hb22 rfl (x_gtr (F.t 24 rfl) rfl) fun a F => la F rfl (x_pickF (F.t 22 rfl) hb22 (F.t 25 rfl)) fun a F => wn (hK28 _ _ ?_)
  refine wp_cond_split (F.t 26 rfl) (fun hc26 => ?_) (fun hc26 => ?_)
  ·have hk26_13 := hc26; try simp only [bL] at hc26
   have hz := rnum_len hb (.inr (by omega))
   refine sr fun _ hK30 => la F rfl (x_assign rfl) fun a F => la F rfl (x_assign rfl) fun a F => wn (hK30 _ _ ?_)
   refine wp_ret ?_
   try simp only [Exit.then, Exit.inBlock]
   exact fin_ret F (res2 F rfl rfl rfl) ⟨0, by rw [hz] <;> rfl, H.mods, by decide, fun u hu => by rw [hz] at hu; cases hu⟩
  have hk26_14 := hc26; try simp only [bL] at hc26
  refine wp_skip (hK27 _ _ (sr fun _ hK31 => la F rfl (x_assign rfl) fun a F => wn (hK31 _ _ ?_)))
  refine wp_seq_k fun _ hK32 => ?_
  refine sr fun _ hK33 => la F rfl (x_assign rfl) fun a F => wn (hK33 _ _ (wp_block ?_))
  refine wp_loop_ghost (fun n_ a w => ∃ k : Nat, n_ = (tOf xs).length - k ∧ (k ≤ (tOf xs).length) ∧ (∀ j, j < k → 48 ≤ gi (tOf xs) (j : Int) ∧ gi (tOf xs) (j : Int) ≤ 57) ∧ Fr 65 a [(0, .string (strOfNums xs)), (4, .string (strOfNums (tOf xs))), (5, .int .u64 (valD ((tOf xs).take k))), (6, .int .i64 (k : Int))] ∧ Hp (fun _ => False) w0 w []) ((tOf xs).length) ?_ ?_
  ·exact ⟨0, rfl, by omega, fun j hj => by omega, ((((F.bare.add F 6 rfl).add F 5 rfl).add F 4 rfl).add F 0 rfl), H.sub _ (sub_nil _)⟩
  rintro _ a w ⟨k, rfl, hq0_0, hq0_1, F, H⟩
  refine wp_seq_k fun _ hK34 => ?_
  refine sr fun _ hK35 => la F rfl (x_move (F.t 6 rfl)) fun a F => la F rfl (x_move (F.t 4 rfl)) fun a F => la F rfl (x_len_sn (xs := (tOf xs)) Tryz.underlying9 (F.t 28 rfl)) fun a F => la F rfl (x_lss (F.t 27 rfl) (F.t 29 rfl)) fun a F => wn (hK35 _ _ ?_)
  refine wp_cond_split (F.t 30 rfl) (fun hc30 => ?_) (fun hc30 => ?_)
  ·have hk30_15 := hc30; try simp only [bL] at hc30
   refine wp_skip (hK34 _ _ ?_)
   refine wp_seq_k fun _ hK36 => ?_
   refine wp_block ?_
   refine wp_seq_k fun _ hK37 => ?_
   refine sr fun _ hK38 => la F rfl (x_move (F.t 4 rfl)) fun a F => la F rfl (x_move (F.t 6 rfl)) fun a F => la F rfl (x_idxS (xs := (tOf xs)) Tryz.underlying9 (F.t 33 rfl) (F.t 34 rfl) (tOf_byte hb) (by omega) (by omega)) fun a F => la F rfl (x_lss (F.t 35 rfl) rfl) fun a F => la F rfl (x_move (F.t 36 rfl)) fun a F => ?_
   refine split_bool F 37 rfl (fun hb37 => ?_) (fun hb37 => ?_)
   ·have hc37 := hb37; try simp only [bL] at hc37
    have hz := rnum_dig hb (k := k) (by omega) (.inl hc37)
    refine los F hb37 rfl fun a F => los F hb37 rfl fun a F => los F hb37 rfl fun a F => los F hb37 rfl fun a F => la F rfl (x_pickT (F.t 37 rfl) hb37 rfl) fun a F => wn (hK38 _ _ ?_)
    refine wp_cond_true (F.t 42 rfl) ?_
    refine sr fun _ hK39 => la F rfl (x_assign rfl) fun a F => la F rfl (x_assign rfl) fun a F => wn (hK39 _ _ ?_)
    refine wp_ret ?_
    try simp only [Exit.then, Exit.inBlock]
    exact fin_ret F (res2 F rfl rfl rfl) ⟨0, by rw [hz] <;> rfl, H.mods, by decide, fun u hu => by rw [hz] at hu; cases hu⟩
   have hc37 := hb37; try simp only [bL] at hc37
   refine lgs F hb37 rfl (x_move (F.t 4 rfl)) fun a F => lgs F hb37 rfl (x_move (F.t 6 rfl)) fun a F => lgs F hb37 rfl (x_idxS (xs := (tOf xs)) Tryz.underlying9 (F.t 38 rfl) (F.t 39 rfl) (tOf_byte hb) (by omega) (by omega)) fun a F => lgs F hb37 rfl (x_gtr (F.t 40 rfl) rfl) fun a F => la F rfl (x_pickF (F.t 37 rfl) hb37 (F.t 41 rfl)) fun a F => wn (hK38 _ _ ?_)
   refine wp_cond_split (F.t 42 rfl) (fun hc42 => ?_) (fun hc42 => ?_)
   ·have hk42_16 := hc42; try simp only [bL] at hc42
    have hz := rnum_dig hb (k := k) (by omega) (.inr hc42)
    refine sr fun _ hK40 => la F rfl (x_assign rfl) fun a F => la F rfl (x_assign rfl) fun a F => wn (hK40 _ _ ?_)
    refine wp_ret ?_
    try simp only [Exit.then, Exit.inBlock]
    exact fin_ret F (res2 F rfl rfl rfl) ⟨0, by rw [hz] <;> rfl, H.mods, by decide, fun u hu => by rw [hz] at hu; cases hu⟩
   have hk42_17 := hc42; try simp only [bL] at hc42
   refine wp_skip (hK37 _ _ ?_)
   refine wp_region_lit ?_
   refine la F rfl (x_move (F.t 5 rfl)) fun a F => la F rfl (x_mul rfl (F.t 43 rfl) (wu64 (by have := hq0_1 ; have hvb := valD_bound (ds := tOf xs) (k := k) (by omega) hq0_1; have hp := pow19 (k := k) (by omega); omega) (by have := hq0_1 ; have hvb := valD_bound (ds := tOf xs) (k := k) (by omega) hq0_1; have hp := pow19 (k := k) (by omega); omega))) fun a F => la F rfl (x_move (F.t 4 rfl)) fun a F => la F rfl (x_move (F.t 6 rfl)) fun a F => la F rfl (x_idxS (xs := (tOf xs)) Tryz.underlying9 (F.t 45 rfl) (F.t 46 rfl) (tOf_byte hb) (by omega) (by omega)) fun a F => la F rfl (x_sub (F.t 47 rfl) rfl (wu8 (by omega) (by omega))) fun a F => la F rfl (x_conv Tryz.underlying59 ⟨_, Tryz.underlying5⟩ (F.t 48 rfl) (wu64 (by omega) (by omega))) fun a F => la F rfl (x_add (F.t 44 rfl) (F.t 49 rfl) (wu64 (by have := hq0_1 ; have hvb := valD_bound (ds := tOf xs) (k := k) (by omega) hq0_1; have hp := pow19 (k := k) (by omega); omega) (by have := hq0_1 ; have hvb := valD_bound (ds := tOf xs) (k := k) (by omega) hq0_1; have hp := pow19 (k := k) (by omega); omega))) fun a F => ?_
   refine la F rfl (x_assign (F.t 50 rfl)) fun a F => wn (hK36 _ _ ?_)
   refine wp_region_lit ?_
   refine la F rfl (x_move (F.t 6 rfl)) fun a F => la F rfl (x_add (F.t 31 rfl) rfl (w64 (by omega) (by omega))) fun a F => la F rfl (x_assign (F.t 32 rfl)) fun a F => ?_
   refine wpList_nil ?_
   have hFs : Fr 65 a [(0, .string (strOfNums xs)), (4, .string (strOfNums (tOf xs))), (5, .int .u64 (10 * (valD ((tOf xs).take k)) + ((gi (tOf xs) (k : Int)) - 48))), (6, .int .i64 ((k : Int) + 1))] := ((((F.bare.add F 6 rfl).add F 5 rfl).add F 4 rfl).add F 0 rfl)
   rw [valD_step (by omega)] at hFs
   exact ⟨_, by omega, ⟨k + 1, rfl, by omega, dig_step hq0_1 hc37 hc42, hFs, H.sub _ (sub_nil _)⟩⟩
  have hk30_18 := hc30; try simp only [bL] at hc30
  obtain rfl : k = (tOf xs).length := by omega
  rw [List.take_length] at F
  refine wp_exit ?_
  refine hK32 _ _ ?_
  refine wp_seq_k fun _ hK41 => ?_
  refine sr fun _ hK42 => la F rfl (x_move (F.t 5 rfl)) fun a F => la F rfl (x_gtr (F.t 51 rfl) rfl) fun a F => wn (hK42 _ _ ?_)
  refine wp_cond_split (F.t 52 rfl) (fun hc52 => ?_) (fun hc52 => ?_)
  ·have hk52_19 := hc52; try simp only [bL] at hc52
   have hz := rnum_big hb hc52
   refine sr fun _ hK43 => la F rfl (x_assign rfl) fun a F => la F rfl (x_assign rfl) fun a F => wn (hK43 _ _ ?_)
   refine wp_ret ?_
   try simp only [Exit.then, Exit.inBlock]
   exact fin_ret F (res2 F rfl rfl rfl) ⟨0, by rw [hz] <;> rfl, H.mods, by decide, fun u hu => by rw [hz] at hu; cases hu⟩
  have hk52_20 := hc52; try simp only [bL] at hc52
  refine wp_skip (hK41 _ _ (sr fun _ hK44 => la F rfl (x_move (F.t 5 rfl)) fun a F => la F rfl (x_conv Tryz.underlying2 ⟨_, Tryz.underlying59⟩ (F.t 53 rfl) rfl) fun a F => la F rfl (x_assign (F.t 54 rfl)) fun a F => wn (hK44 _ _ ?_)))
  refine wp_seq_k fun _ hK45 => ?_
  refine sr fun _ hK46 => la F rfl (x_move (F.t 4 rfl)) fun a F => la F rfl (x_move (F.t 0 rfl)) fun a F => la F rfl (x_nen (xs := (tOf xs)) (ys := xs) (F.t 55 rfl) (F.t 56 rfl) (tOf_byte hb) hb) fun a F => wn (hK46 _ _ ?_)
  refine wp_cond_split (F.t 57 rfl) (fun hc57 => ?_) (fun hc57 => ?_)
  ·have hk57_21 := hc57; try simp only [bL] at hc57
   have hxof := xOf_neg hc57
   refine wp_region_lit ?_
   refine la F rfl (x_move (F.t 7 rfl)) fun a F => la F rfl (x_neg (F.t 58 rfl) rfl) fun a F => la F rfl (x_assign (F.t 59 rfl)) fun a F => wn (hK45 _ _ (sr fun _ hK47 => ?_))
   have F := FrD.add F F 7 (v := .int .i64 (xOf xs)) (by rw [hxof]; rfl)
   refine la F rfl (x_move (F.t 7 rfl)) fun a F => la F rfl (x_move (F.t 7 rfl)) fun a F => ?_
   refine lp rfl ?_
   refine w_call F (x_enter Tryz.func61 (by kernel_rfl) rfl (by simp only [bM, F.t 61 rfl] <;> rfl)) (text_calls _ (rnum_fin hb).2.2) rfl rfl ?_
   rintro _ w ⟨rfl, hm_⟩; refine ⟨_, rfl, ?_⟩; clear F; intro a F; have H := H.same hm_
   refine la F rfl (x_move (F.t 0 rfl)) fun a F => la F rfl (x_eqn (xs := (itoaI (xOf xs))) (ys := xs) (F.t 62 rfl) (F.t 63 rfl) (itoaI_byte _) hb) fun a F => la F rfl (x_assign (F.t 60 rfl)) fun a F => la F rfl (x_assign (F.t 64 rfl)) fun a F => wn (hK47 _ _ ?_)
   refine wp_ret ?_
   try simp only [Exit.then, Exit.inBlock]
   have hz := rnum_fin hb
   exact fin_ret F (res2 F rfl rfl rfl) ⟨xOf xs, by rw [hz.1] <;> rfl, H.mods, hz.2.2, hz.2.1⟩
  have hk57_22 := hc57; try simp only [bL] at hc57
  have hxof := xOf_pos hc57
  refine wp_skip (hK45 _ _ (sr fun _ hK48 => ?_))
  have F := FrD.add F F 7 (v := .int .i64 (xOf xs)) (by rw [hxof]; rfl)
  refine la F rfl (x_move (F.t 7 rfl)) fun a F => la F rfl (x_move (F.t 7 rfl)) fun a F => ?_
  refine lp rfl ?_
  refine w_call F (x_enter Tryz.func61 (by kernel_rfl) rfl (by simp only [bM, F.t 61 rfl] <;> rfl)) (text_calls _ (rnum_fin hb).2.2) rfl rfl ?_
  rintro _ w ⟨rfl, hm_⟩; refine ⟨_, rfl, ?_⟩; clear F; intro a F; have H := H.same hm_
  refine la F rfl (x_move (F.t 0 rfl)) fun a F => la F rfl (x_eqn (xs := (itoaI (xOf xs))) (ys := xs) (F.t 62 rfl) (F.t 63 rfl) (itoaI_byte _) hb) fun a F => la F rfl (x_assign (F.t 60 rfl)) fun a F => la F rfl (x_assign (F.t 64 rfl)) fun a F => wn (hK48 _ _ ?_)
  refine wp_ret ?_
  try simp only [Exit.then, Exit.inBlock]
  have hz := rnum_fin hb
  exact fin_ret F (res2 F rfl rfl rfl) ⟨xOf xs, by rw [hz.1] <;> rfl, H.mods, hz.2.2, hz.2.1⟩
 have hc12 := hb12; try simp only [bL] at hc12
 have htof := tOf_0 (xs := xs) (by omega)
 refine los F hb12 rfl fun a F => los F hb12 rfl fun a F => los F hb12 rfl fun a F => la F rfl (x_pickF (F.t 12 rfl) hb12 rfl) fun a F => wn (hK4 _ _ ?_)
 refine wp_cond_false (F.t 16 rfl) ?_
 refine wp_skip (hK3 _ _ ?_)
 refine wp_seq_k fun _ hK49 => ?_
 refine sr fun _ hK50 => ?_
 have F := FrD.add F F 4 (v := .string (strOfNums (tOf xs))) (by rw [htof]; rfl)
 refine la F rfl (x_move (F.t 4 rfl)) fun a F => la F rfl (x_len_sn (xs := (tOf xs)) Tryz.underlying9 (F.t 19 rfl)) fun a F => la F rfl (x_lss (F.t 20 rfl) rfl) fun a F => la F rfl (x_move (F.t 21 rfl)) fun a F => ?_
 refine split_bool F 22 rfl (fun hb22 => ?_) (fun hb22 => ?_)
 ·have hc22 := hb22; try simp only [bL] at hc22
  have hz := rnum_len hb (.inl (by omega))
  refine los F hb22 rfl fun a F => los F hb22 rfl fun a F => los F hb22 rfl fun a F => la F rfl (x_pickT (F.t 22 rfl) hb22 rfl) fun a F => wn (hK50 _ _ ?_)
  refine wp_cond_true (F.t 26 rfl) ?_
  refine sr fun _ hK51 => la F rfl (x_assign rfl) fun a F => la F rfl (x_assign rfl) fun a F => wn (hK51 _ _ ?_)
  refine wp_ret ?_
  try simp only [Exit.then, Exit.inBlock]
  exact fin_ret F (res2 F rfl rfl rfl) ⟨0, by rw [hz] <;> rfl, H.mods, by decide, fun u hu => by rw [hz] at hu; cases hu⟩
 have hc22 := hb22; try simp only [bL] at hc22
 refine lgs F hb22 rfl (x_move (F.t 4 rfl)) fun a F => lgs F hb22 rfl (x_len_sn (xs := (tOf xs)) Tryz.underlying9 (F.t 23 rfl)) fun a F => lgs F hb22 rfl (x_gtr (F.t 24 rfl) rfl) fun a F => la F rfl (x_pickF (F.t 22 rfl) hb22 (F.t 25 rfl)) fun a F => wn (hK50 _ _ ?_)
 refine wp_cond_split (F.t 26 rfl) (fun hc26 => ?_) (fun hc26 => ?_)
 ·have hk26_23 := hc26; try simp only [bL] at hc26
  have hz := rnum_len hb (.inr (by omega))
  refine sr fun _ hK52 => la F rfl (x_assign rfl) fun a F => la F rfl (x_assign rfl) fun a F => wn (hK52 _ _ ?_)
  refine wp_ret ?_
  try simp only [Exit.then, Exit.inBlock]
  exact fin_ret F (res2 F rfl rfl rfl) ⟨0, by rw [hz] <;> rfl, H.mods, by decide, fun u hu => by rw [hz] at hu; cases hu⟩
 have hk26_24 := hc26; try simp only [bL] at hc26
 refine wp_skip (hK49 _ _ (sr fun _ hK53 => la F rfl (x_assign rfl) fun a F => wn (hK53 _ _ ?_)))
 refine wp_seq_k fun _ hK54 => ?_
 refine sr fun _ hK55 => la F rfl (x_assign rfl) fun a F => wn (hK55 _ _ (wp_block ?_))
 refine wp_loop_ghost (fun n_ a w => ∃ k : Nat, n_ = (tOf xs).length - k ∧ (k ≤ (tOf xs).length) ∧ (∀ j, j < k → 48 ≤ gi (tOf xs) (j : Int) ∧ gi (tOf xs) (j : Int) ≤ 57) ∧ Fr 65 a [(0, .string (strOfNums xs)), (4, .string (strOfNums (tOf xs))), (5, .int .u64 (valD ((tOf xs).take k))), (6, .int .i64 (k : Int))] ∧ Hp (fun _ => False) w0 w []) ((tOf xs).length) ?_ ?_
 ·exact ⟨0, rfl, by omega, fun j hj => by omega, ((((F.bare.add F 6 rfl).add F 5 rfl).add F 4 rfl).add F 0 rfl), H.sub _ (sub_nil _)⟩
 rintro _ a w ⟨k, rfl, hq0_0, hq0_1, F, H⟩
 refine wp_seq_k fun _ hK56 => ?_
 refine sr fun _ hK57 => la F rfl (x_move (F.t 6 rfl)) fun a F => la F rfl (x_move (F.t 4 rfl)) fun a F => la F rfl (x_len_sn (xs := (tOf xs)) Tryz.underlying9 (F.t 28 rfl)) fun a F => la F rfl (x_lss (F.t 27 rfl) (F.t 29 rfl)) fun a F => wn (hK57 _ _ ?_)
 refine wp_cond_split (F.t 30 rfl) (fun hc30 => ?_) (fun hc30 => ?_)
 ·have hk30_25 := hc30; try simp only [bL] at hc30
  refine wp_skip (hK56 _ _ ?_)
  refine wp_seq_k fun _ hK58 => ?_
  refine wp_block ?_
  refine wp_seq_k fun _ hK59 => ?_
  refine sr fun _ hK60 => la F rfl (x_move (F.t 4 rfl)) fun a F => la F rfl (x_move (F.t 6 rfl)) fun a F => la F rfl (x_idxS (xs := (tOf xs)) Tryz.underlying9 (F.t 33 rfl) (F.t 34 rfl) (tOf_byte hb) (by omega) (by omega)) fun a F => la F rfl (x_lss (F.t 35 rfl) rfl) fun a F => la F rfl (x_move (F.t 36 rfl)) fun a F => ?_
  refine split_bool F 37 rfl (fun hb37 => ?_) (fun hb37 => ?_)
  ·have hc37 := hb37; try simp only [bL] at hc37
   have hz := rnum_dig hb (k := k) (by omega) (.inl hc37)
   refine los F hb37 rfl fun a F => los F hb37 rfl fun a F => los F hb37 rfl fun a F => los F hb37 rfl fun a F => la F rfl (x_pickT (F.t 37 rfl) hb37 rfl) fun a F => wn (hK60 _ _ ?_)
   refine wp_cond_true (F.t 42 rfl) ?_
   refine sr fun _ hK61 => la F rfl (x_assign rfl) fun a F => la F rfl (x_assign rfl) fun a F => wn (hK61 _ _ ?_)
   refine wp_ret ?_
   try simp only [Exit.then, Exit.inBlock]
   exact fin_ret F (res2 F rfl rfl rfl) ⟨0, by rw [hz] <;> rfl, H.mods, by decide, fun u hu => by rw [hz] at hu; cases hu⟩
  have hc37 := hb37; try simp only [bL] at hc37
  refine lgs F hb37 rfl (x_move (F.t 4 rfl)) fun a F => lgs F hb37 rfl (x_move (F.t 6 rfl)) fun a F => lgs F hb37 rfl (x_idxS (xs := (tOf xs)) Tryz.underlying9 (F.t 38 rfl) (F.t 39 rfl) (tOf_byte hb) (by omega) (by omega)) fun a F => lgs F hb37 rfl (x_gtr (F.t 40 rfl) rfl) fun a F => la F rfl (x_pickF (F.t 37 rfl) hb37 (F.t 41 rfl)) fun a F => wn (hK60 _ _ ?_)
  refine wp_cond_split (F.t 42 rfl) (fun hc42 => ?_) (fun hc42 => ?_)
  ·have hk42_26 := hc42; try simp only [bL] at hc42
   have hz := rnum_dig hb (k := k) (by omega) (.inr hc42)
   refine sr fun _ hK62 => la F rfl (x_assign rfl) fun a F => la F rfl (x_assign rfl) fun a F => wn (hK62 _ _ ?_)
   refine wp_ret ?_
   try simp only [Exit.then, Exit.inBlock]
   exact fin_ret F (res2 F rfl rfl rfl) ⟨0, by rw [hz] <;> rfl, H.mods, by decide, fun u hu => by rw [hz] at hu; cases hu⟩
  have hk42_27 := hc42; try simp only [bL] at hc42
  refine wp_skip (hK59 _ _ ?_)
  refine wp_region_lit ?_
  refine la F rfl (x_move (F.t 5 rfl)) fun a F => la F rfl (x_mul rfl (F.t 43 rfl) (wu64 (by have := hq0_1 ; have hvb := valD_bound (ds := tOf xs) (k := k) (by omega) hq0_1; have hp := pow19 (k := k) (by omega); omega) (by have := hq0_1 ; have hvb := valD_bound (ds := tOf xs) (k := k) (by omega) hq0_1; have hp := pow19 (k := k) (by omega); omega))) fun a F => la F rfl (x_move (F.t 4 rfl)) fun a F => la F rfl (x_move (F.t 6 rfl)) fun a F => la F rfl (x_idxS (xs := (tOf xs)) Tryz.underlying9 (F.t 45 rfl) (F.t 46 rfl) (tOf_byte hb) (by omega) (by omega)) fun a F => la F rfl (x_sub (F.t 47 rfl) rfl (wu8 (by omega) (by omega))) fun a F => la F rfl (x_conv Tryz.underlying59 ⟨_, Tryz.underlying5⟩ (F.t 48 rfl) (wu64 (by omega) (by omega))) fun a F => la F rfl (x_add (F.t 44 rfl) (F.t 49 rfl) (wu64 (by have := hq0_1 ; have hvb := valD_bound (ds := tOf xs) (k := k) (by omega) hq0_1; have hp := pow19 (k := k) (by omega); omega) (by have := hq0_1 ; have hvb := valD_bound (ds := tOf xs) (k := k) (by omega) hq0_1; have hp := pow19 (k := k) (by omega); omega))) fun a F => ?_
  refine la F rfl (x_assign (F.t 50 rfl)) fun a F => wn (hK58 _ _ ?_)
  refine wp_region_lit ?_
  refine la F rfl (x_move (F.t 6 rfl)) fun a F => la F rfl (x_add (F.t 31 rfl) rfl (w64 (by omega) (by omega))) fun a F => la F rfl (x_assign (F.t 32 rfl)) fun a F => ?_
  refine wpList_nil ?_
  have hFs : Fr 65 a [(0, .string (strOfNums xs)), (4, .string (strOfNums (tOf xs))), (5, .int .u64 (10 * (valD ((tOf xs).take k)) + ((gi (tOf xs) (k : Int)) - 48))), (6, .int .i64 ((k : Int) + 1))] := ((((F.bare.add F 6 rfl).add F 5 rfl).add F 4 rfl).add F 0 rfl)
  rw [valD_step (by omega)] at hFs
  exact ⟨_, by omega, ⟨k + 1, rfl, by omega, dig_step hq0_1 hc37 hc42, hFs, H.sub _ (sub_nil _)⟩⟩
 have hk30_28 := hc30; try simp only [bL] at hc30
 obtain rfl : k = (tOf xs).length := by omega
 rw [List.take_length] at F
 refine wp_exit ?_
 refine hK54 _ _ ?_
 refine wp_seq_k fun _ hK63 => ?_
 refine sr fun _ hK64 => la F rfl (x_move (F.t 5 rfl)) fun a F => la F rfl (x_gtr (F.t 51 rfl) rfl) fun a F => wn (hK64 _ _ ?_)
 refine wp_cond_split (F.t 52 rfl) (fun hc52 => ?_) (fun hc52 => ?_)
 ·have hk52_29 := hc52; try simp only [bL] at hc52
  have hz := rnum_big hb hc52
  refine sr fun _ hK65 => la F rfl (x_assign rfl) fun a F => la F rfl (x_assign rfl) fun a F => wn (hK65 _ _ ?_)
  refine wp_ret ?_
  try simp only [Exit.then, Exit.inBlock]
  exact fin_ret F (res2 F rfl rfl rfl) ⟨0, by rw [hz] <;> rfl, H.mods, by decide, fun u hu => by rw [hz] at hu; cases hu⟩
 have hk52_30 := hc52; try simp only [bL] at hc52
 refine wp_skip (hK63 _ _ (sr fun _ hK66 => la F rfl (x_move (F.t 5 rfl)) fun a F => la F rfl (x_conv Tryz.underlying2 ⟨_, Tryz.underlying59⟩ (F.t 53 rfl) rfl) fun a F => la F rfl (x_assign (F.t 54 rfl)) fun a F => wn (hK66 _ _ ?_)))
 refine wp_seq_k fun _ hK67 => ?_
 refine sr fun _ hK68 => la F rfl (x_move (F.t 4 rfl)) fun a F => la F rfl (x_move (F.t 0 rfl)) fun a F => la F rfl (x_nen (xs := (tOf xs)) (ys := xs) (F.t 55 rfl) (F.t 56 rfl) (tOf_byte hb) hb) fun a F => wn (hK68 _ _ ?_)
 refine wp_cond_split (F.t 57 rfl) (fun hc57 => ?_) (fun hc57 => ?_)
 ·have hk57_31 := hc57; try simp only [bL] at hc57
  have hxof := xOf_neg hc57
  refine wp_region_lit ?_
  refine la F rfl (x_move (F.t 7 rfl)) fun a F => la F rfl (x_neg (F.t 58 rfl) rfl) fun a F => la F rfl (x_assign (F.t 59 rfl)) fun a F => wn (hK67 _ _ (sr fun _ hK69 => ?_))
  have F := FrD.add F F 7 (v := .int .i64 (xOf xs)) (by rw [hxof]; rfl)
  refine la F rfl (x_move (F.t 7 rfl)) fun a F => la F rfl (x_move (F.t 7 rfl)) fun a F => ?_
  refine lp rfl ?_
  refine w_call F (x_enter Tryz.func61 (by kernel_rfl) rfl (by simp only [bM, F.t 61 rfl] <;> rfl)) (text_calls _ (rnum_fin hb).2.2) rfl rfl ?_
  rintro _ w ⟨rfl, hm_⟩; refine ⟨_, rfl, ?_⟩; clear F; intro a F; have H := H.same hm_
  refine la F rfl (x_move (F.t 0 rfl)) fun a F => la F rfl (x_eqn (xs := (itoaI (xOf xs))) (ys := xs) (F.t 62 rfl) (F.t 63 rfl) (itoaI_byte _) hb) fun a F => la F rfl (x_assign (F.t 60 rfl)) fun a F => la F rfl (x_assign (F.t 64 rfl)) fun a F => wn (hK69 _ _ ?_)
  refine wp_ret ?_
  try simp only [Exit.then, Exit.inBlock]
  have hz := rnum_fin hb
  exact fin_ret F (res2 F rfl rfl rfl) ⟨xOf xs, by rw [hz.1] <;> rfl, H.mods, hz.2.2, hz.2.1⟩
 have hk57_32 := hc57; try simp only [bL] at hc57
 have hxof := xOf_pos hc57
 refine wp_skip (hK67 _ _ (sr fun _ hK70 => ?_))
 have F := FrD.add F F 7 (v := .int .i64 (xOf xs)) (by rw [hxof]; rfl)
 refine la F rfl (x_move (F.t 7 rfl)) fun a F => la F rfl (x_move (F.t 7 rfl)) fun a F => ?_
 refine lp rfl ?_
 refine w_call F (x_enter Tryz.func61 (by kernel_rfl) rfl (by simp only [bM, F.t 61 rfl] <;> rfl)) (text_calls _ (rnum_fin hb).2.2) rfl rfl ?_
 rintro _ w ⟨rfl, hm_⟩; refine ⟨_, rfl, ?_⟩; clear F; intro a F; have H := H.same hm_
 refine la F rfl (x_move (F.t 0 rfl)) fun a F => la F rfl (x_eqn (xs := (itoaI (xOf xs))) (ys := xs) (F.t 62 rfl) (F.t 63 rfl) (itoaI_byte _) hb) fun a F => la F rfl (x_assign (F.t 60 rfl)) fun a F => la F rfl (x_assign (F.t 64 rfl)) fun a F => wn (hK70 _ _ ?_)
 refine wp_ret ?_
 try simp only [Exit.then, Exit.inBlock]
 have hz := rnum_fin hb
 exact fin_ret F (res2 F rfl rfl rfl) ⟨xOf xs, by rw [hz.1] <;> rfl, H.mods, hz.2.2, hz.2.1⟩
theorem radec_calls (w0 : World) {ok : Nat → Prop} {A : Option Addr} {bs : List Int} {c : Nat} (hrb : Rd (.int .u8) w0 ok A bs c) (hby : Byte bs) : Calls Tryz.prog 77 #[.slice A bs.length c] w0 fun e w' => ∃ v, e = .returned (.tuple #[v, .int .i64 (if (adecR bs).isSome then 0 else 12)]) ∧ Mods (fun _ => False) w0 w' ∧ RowOut StE 91 w0 w' v ((adecR bs).getD []) := by
 refine cow Tryz.func77 rfl Tryz.ntmps77 (Nat.le_of_ble_eq_true rfl) fun a F => ?_
 have H := Hp.nil (fun _ => False) w0
 have H := H.arg 901 hrb.all (fun _ h => ⟨h, fun h => h⟩)
 have hleb := hrb.le; unfold maxLen at hleb
 refine sr fun _ hK1 => la F rfl (x_assign rfl) fun a F => la F rfl (x_assign rfl) fun a F => wn (hK1 _ _ (sr fun _ hK2 => la F rfl (x_move (F.t 0 rfl)) fun a F => ?_))
 refine lp rfl ?_
 refine w_call F (x_enter Tryz.func41 (by kernel_rfl) rfl (by simp only [bM, F.t 16 rfl] <;> rfl)) (refDec_calls _ ((H.rd 901 rfl)) hby) rfl rfl ?_
 rintro _ w ⟨vr41, rfl, hm_, okr41, hr_, hf_, ho41_⟩; refine ⟨_, rfl, ?_⟩; clear F; intro a F; have H := H.newRow 41 hm_ hr_ hf_ ho41_; obtain ⟨Ar41, cr41, rfl⟩ := (H.row 41 rfl).form
 refine la F rfl (x_move (F.t 17 rfl)) fun a F => la F rfl (x_extract (F.t 15 rfl) rfl) fun a F => la F rfl (x_extract (F.t 15 rfl) rfl) fun a F => la F rfl (x_assign (F.t 18 rfl)) fun a F => la F rfl (x_assign (F.t 19 rfl)) fun a F => wn (hK2 _ _ ?_)
 refine wp_seq_k fun _ hK3 => ?_
 refine sr fun _ hK4 => la F rfl (x_move (F.t 5 rfl)) fun a F => la F rfl (x_neq (F.t 20 rfl) rfl) fun a F => la F rfl (x_move (F.t 21 rfl)) fun a F => ?_
 refine split_bool F 22 rfl (fun hb22 => ?_) (fun hb22 => ?_)
 ·have hc22 := hb22; try simp only [bL] at hc22
  have hz : adecR bs = none := adec_none (by cases hd : decR bs with | none => rfl | some l => rw [hd] at hc22; exact absurd rfl hc22)
  refine los F hb22 rfl fun a F => los F hb22 rfl fun a F => los F hb22 rfl fun a F => la F rfl (x_pickT (F.t 22 rfl) hb22 rfl) fun a F => wn (hK4 _ _ ?_)
  refine wp_cond_true (F.t 26 rfl) ?_
  refine sr fun _ hK5 => la F rfl (x_assign rfl) fun a F => la F rfl (x_assign rfl) fun a F => wn (hK5 _ _ ?_)
  refine wp_ret ?_
  try simp only [Exit.then, Exit.inBlock]
  exact fin_ret F (res2 F rfl rfl rfl) ⟨.slice none 0 0, by rw [hz] <;> rfl, H.mods, by rw [hz]; exact RowOut.nil _ _ _ _⟩
 have hc22 := hb22; try simp only [bL] at hc22
 obtain ⟨dl, hdl⟩ := dec_zero hc22
 refine lgs F hb22 rfl (x_move (F.t 4 rfl)) fun a F => lgs F hb22 rfl (x_len_slice Tryz.underlying60 (F.t 23 rfl)) fun a F => lgs F hb22 rfl (x_gtr (F.t 24 rfl) rfl) fun a F => la F rfl (x_pickF (F.t 22 rfl) hb22 (F.t 25 rfl)) fun a F => wn (hK4 _ _ ?_)
 refine wp_cond_split (F.t 26 rfl) (fun hc26 => ?_) (fun hc26 => ?_)
 ·have hk26_1 := hc26; try simp only [bL] at hc26
  have hz := adec_many hdl (by rw [hdl] at hc26; exact hc26)
  refine sr fun _ hK6 => la F rfl (x_assign rfl) fun a F => la F rfl (x_assign rfl) fun a F => wn (hK6 _ _ ?_)
  refine wp_ret ?_
  try simp only [Exit.then, Exit.inBlock]
  exact fin_ret F (res2 F rfl rfl rfl) ⟨.slice none 0 0, by rw [hz] <;> rfl, H.mods, by rw [hz]; exact RowOut.nil _ _ _ _⟩
 have hk26_2 := hc26; try simp only [bL] at hc26
 have h4 : ¬ 4 < (dl.length : Int) := by rw [hdl] at hc26; exact hc26
 have hsm : ∀ x ∈ dl, x.2.length ≤ 2000 := fun x hx => (okF_parts (List.all_eq_true.1 (enc_parts (enc_dec hby hdl)).1 x hx)).2.2
 refine wp_skip (hK3 _ _ (sr fun _ hK7 => la F rfl (x_assign rfl) fun a F => ?_))
 rw [hdl, Option.getD_some] at F H
 have H := H.freeze 41 rfl (fun kb => okr41 kb ∨ (Value.slice Ar41 dl.length cr41).ownBlock = some kb) (fun kb => Iff.rfl)
 have H := H.row0 6 StE 91
 refine wn (hK7 _ _ ?_)
 refine wp_seq_k fun _ hK8 => ?_
 refine sr fun _ hK9 => la F rfl (x_assign rfl) fun a F => wn (hK9 _ _ (wp_block ?_))
 refine wp_loop_ghost (fun n_ a w => ∃ k : Nat, ∃ out : List StepD, ∃ v6 : Value, n_ = dl.length - k ∧ (k ≤ dl.length) ∧ (RInv dl k out) ∧ Fr 100 a [(0, .slice A bs.length c), (4, .slice Ar41 dl.length cr41), (6, v6), (7, .int .i64 (k : Int))] ∧ Hp (fun _ => False) w0 w [(901, .rd_ (.int .u8) A bs c (fun k => k < w0.heap.size)), (41, .rd_ FE Ar41 dl cr41 (fun kb => okr41 kb ∨ (Value.slice Ar41 dl.length cr41).ownBlock = some kb)), (6, .row StE 91 v6 out (fun _ => False))]) (dl.length) ?_ ?_
 ·exact ⟨0, [], .slice none 0 0, rfl, by omega, RInv.nil _, ((((F.bare.add F 7 rfl).add F 6 rfl).add F 4 rfl).add F 0 rfl), H.sub _ (sub_cons (sub_cons (sub_cons (sub_nil _) 6 rfl) 41 rfl) 901 rfl)⟩
 rintro _ a w ⟨k, out, v6, rfl, hq0_0, hq0_1, F, H⟩
 refine wp_seq_k fun _ hK10 => ?_
 refine sr fun _ hK11 => la F rfl (x_move (F.t 7 rfl)) fun a F => la F rfl (x_move (F.t 4 rfl)) fun a F => la F rfl (x_len_slice Tryz.underlying60 (F.t 28 rfl)) fun a F => la F rfl (x_lss (F.t 27 rfl) (F.t 29 rfl)) fun a F => wn (hK11 _ _ ?_)
 refine wp_cond_split (F.t 30 rfl) (fun hc30 => ?_) (fun hc30 => ?_)
 ·have hk30_3 := hc30; try simp only [bL] at hc30
  refine wp_skip (hK10 _ _ ?_)
  refine wp_seq_k fun _ hK12 => ?_
  refine wp_block (sr fun _ hK13 => ?_)
  obtain ⟨fA1, fc1, hfr1, hf1_0, hf1_1, hfw1⟩ := Rd.fld ((H.rd 41 rfl)) (gf_some (xs := dl) (i := (k : Int)) (by omega) (by omega))
  have H := H.subrd 41 rfl 1001 hfr1 (fun _ h => h)
  have H := H.subcels 41 rfl 1499 hfw1 (Rd.inok ((H.rd 41 rfl)) (by omega) _)
  have H := H.subcel 41 rfl 1500 hf1_0 (Rd.inok ((H.rd 41 rfl)) (by omega) _)
  have H := H.subcel 41 rfl 1501 hf1_1 (Rd.inok ((H.rd 41 rfl)) (by omega) _)
  have hmem : (gf dl (k : Int)) ∈ dl := List.mem_of_getElem? (gf_some (xs := dl) (i := (k : Int)) (by omega) (by omega))
  have hbf := fld_bytes hby hdl _ hmem
  have hsf := hsm _ hmem
  refine la F rfl (x_move (F.t 4 rfl)) fun a F => la F rfl (x_move (F.t 7 rfl)) fun a F => la F rfl (x_iaddr_A Tryz.underlying60 ty57 ((H.rd 41 rfl)) (F.t 33 rfl) (F.t 34 rfl) (by omega) (by omega) _) fun a F => la F rfl (x_faddrA ((H.rd 41 rfl)) (by omega) _ Tryz.underlying57 rfl ty27 (by decide) (F.t 35 rfl) rfl) fun a F => la F rfl (x_load1 ty27 (F.t 36 rfl) (H.holds 1501 _ rfl)) fun a F => la F rfl (x_b2s Tryz.underlying27 Tryz.underlying5 Tryz.underlying9 ((H.rd 1001 rfl)) (F.t 37 rfl)) fun a F => la F rfl (x_assign (F.t 38 rfl)) fun a F => wn (hK13 _ _ ?_)
  refine wp_seq_k fun _ hK14 => ?_
  refine sr fun _ hK15 => la F rfl (x_move (F.t 8 rfl)) fun a F => la F rfl (x_len_sn (xs := ((gf dl (k : Int)).2)) Tryz.underlying9 (F.t 39 rfl)) fun a F => la F rfl (x_lss (F.t 40 rfl) rfl) fun a F => la F rfl (x_move (F.t 41 rfl)) fun a F => ?_
  refine split_bool F 42 rfl (fun hb42 => ?_) (fun hb42 => ?_)
  ·have hc42 := hb42; try simp only [bL] at hc42
   have hz := adec_stop hdl h4 hc30 (stepF_short (.inl (by omega)))
   refine los F hb42 rfl fun a F => los F hb42 rfl fun a F => los F hb42 rfl fun a F => los F hb42 rfl fun a F => los F hb42 rfl fun a F => los F hb42 rfl fun a F => los F hb42 rfl fun a F => la F rfl (x_pickT (F.t 42 rfl) hb42 rfl) fun a F => ?_
   refine wn (hK15 _ _ ?_)
   refine wp_cond_true (F.t 50 rfl) ?_
   refine sr fun _ hK16 => la F rfl (x_assign rfl) fun a F => la F rfl (x_assign rfl) fun a F => wn (hK16 _ _ ?_)
   refine wp_ret ?_
   try simp only [Exit.then, Exit.inBlock]
   exact fin_ret F (res2 F rfl rfl rfl) ⟨.slice none 0 0, by rw [hz] <;> rfl, H.mods, by rw [hz]; exact RowOut.nil _ _ _ _⟩
  have hc42 := hb42; try simp only [bL] at hc42
  refine lgs F hb42 rfl (x_move (F.t 8 rfl)) fun a F => lgs F hb42 rfl (x_len_sn (xs := ((gf dl (k : Int)).2)) Tryz.underlying9 (F.t 43 rfl)) fun a F => lgs F hb42 rfl (x_move (F.t 8 rfl)) fun a F => lgs F hb42 rfl (x_idxS (xs := ((gf dl (k : Int)).2)) Tryz.underlying9 (F.t 45 rfl) rfl hbf (by omega) (by omega)) fun a F => lgs F hb42 rfl (x_conv Tryz.underlying3 ⟨_, Tryz.underlying5⟩ (F.t 46 rfl) (w64 (by have := (hbf.gi 0).1; have := (hbf.gi 0).2; omega) (by have := (hbf.gi 0).1; have := (hbf.gi 0).2; omega))) fun a F => lgs F hb42 rfl (x_add rfl (F.t 47 rfl) (w64 (by have := (hbf.gi 0).1; have := (hbf.gi 0).2; omega) (by have := (hbf.gi 0).1; have := (hbf.gi 0).2; omega))) fun a F => lgs F hb42 rfl (x_lss (F.t 44 rfl) (F.t 48 rfl)) fun a F => la F rfl (x_pickF (F.t 42 rfl) hb42 (F.t 49 rfl)) fun a F => ?_
  refine wn (hK15 _ _ ?_)
  refine wp_cond_split (F.t 50 rfl) (fun hc50 => ?_) (fun hc50 => ?_)
  ·have hk50_4 := hc50; try simp only [bL] at hc50
   have hz := adec_stop hdl h4 hc30 (stepF_short (.inr (by omega)))
   refine sr fun _ hK17 => la F rfl (x_assign rfl) fun a F => la F rfl (x_assign rfl) fun a F => wn (hK17 _ _ ?_)
   refine wp_ret ?_
   try simp only [Exit.then, Exit.inBlock]
   exact fin_ret F (res2 F rfl rfl rfl) ⟨.slice none 0 0, by rw [hz] <;> rfl, H.mods, by rw [hz]; exact RowOut.nil _ _ _ _⟩
  have hk50_5 := hc50; try simp only [bL] at hc50
  refine wp_skip (hK14 _ _ ?_)
  refine wp_seq_k fun _ hK18 => ?_
  refine r_start [(901, .rd_ (.int .u8) A bs c (fun k => k < w0.heap.size)), (41, .rd_ FE Ar41 dl cr41 (fun kb => okr41 kb ∨ (Value.slice Ar41 dl.length cr41).ownBlock = some kb)), (1001, .rd_ (.int .u8) (fA1) (gf dl (k : Int)).2 fc1 (fun kb => okr41 kb ∨ (Value.slice Ar41 dl.length cr41).ownBlock = some kb)), (1499, .cels (adr Ar41 (Int.toNat (k : Int) * 2)) #[.int .i64 (gf dl (k : Int)).1, .slice fA1 (gf dl (k : Int)).2.length fc1]), (1500, .cel (adr Ar41 (Int.toNat (k : Int) * 2)) (.int .i64 (gf dl (k : Int)).1)), (1501, .cel (adr Ar41 (Int.toNat (k : Int) * 2 + 1)) (.slice fA1 (gf dl (k : Int)).2.length fc1))] (by kernel_rfl) H fun H => ?_
  have hS : SL [(901, .rd_ (.int .u8) A bs c (fun k => k < w0.heap.size)), (41, .rd_ FE Ar41 dl cr41 (fun kb => okr41 kb ∨ (Value.slice Ar41 dl.length cr41).ownBlock = some kb)), (1001, .rd_ (.int .u8) (fA1) (gf dl (k : Int)).2 fc1 (fun kb => okr41 kb ∨ (Value.slice Ar41 dl.length cr41).ownBlock = some kb)), (1499, .cels (adr Ar41 (Int.toNat (k : Int) * 2)) #[.int .i64 (gf dl (k : Int)).1, .slice fA1 (gf dl (k : Int)).2.length fc1]), (1500, .cel (adr Ar41 (Int.toNat (k : Int) * 2)) (.int .i64 (gf dl (k : Int)).1)), (1501, .cel (adr Ar41 (Int.toNat (k : Int) * 2 + 1)) (.slice fA1 (gf dl (k : Int)).2.length fc1))] _ := SL.of H (sub_cons (sub_cons (sub_cons (sub_cons (sub_cons (sub_cons (sub_nil _) 1501 rfl) 1500 rfl) 1499 rfl) 1001 rfl) 41 rfl) 901 rfl)
  refine rT 0 F rfl (by kernel_rfl) pq rfl hS (fun w hS => x_move (F.t 4 rfl)) rfl fun a F => ?_
  refine rT 1 F rfl (by kernel_rfl) pq rfl hS (fun w hS => x_move (F.t 7 rfl)) rfl fun a F => ?_
  refine rT 2 F rfl (by kernel_rfl) pq rfl hS (fun w hS => x_iaddr_A Tryz.underlying60 ty57 ((H.rd 41 rfl)) (F.t 51 rfl) (F.t 52 rfl) (by omega) (by omega) _) rfl fun a F => ?_
  refine rT 3 F rfl (by kernel_rfl) pq rfl hS (fun w hS => x_faddrA ((SL.rd hS 41 rfl)) (by omega) _ Tryz.underlying57 rfl ty3 (by decide) (F.t 53 rfl) rfl) rfl fun a F => ?_
  refine rT 4 F rfl (by kernel_rfl) pq rfl hS (fun w hS => x_load1 ty3 (F.t 54 rfl) (hS 1500 _ rfl)) rfl fun a F => ?_
  refine rT 5 F rfl (by kernel_rfl) pq rfl hS (fun w hS => x_move (F.t 8 rfl)) rfl fun a F => ?_
  refine rT 6 F rfl (by kernel_rfl) pq rfl hS (fun w hS => x_move (F.t 8 rfl)) rfl fun a F => ?_
  refine rT 7 F rfl (by kernel_rfl) pq rfl hS (fun w hS => x_idxS (xs := ((gf dl (k : Int)).2)) Tryz.underlying9 (F.t 57 rfl) rfl hbf (by omega) (by omega)) rfl fun a F => ?_
  refine rT 8 F rfl (by kernel_rfl) pq rfl hS (fun w hS => x_conv Tryz.underlying3 ⟨_, Tryz.underlying5⟩ (F.t 58 rfl) (w64 (by have := (hbf.gi 0).1; have := (hbf.gi 0).2; omega) (by have := (hbf.gi 0).1; have := (hbf.gi 0).2; omega))) rfl fun a F => ?_
  refine rT 9 F rfl (by kernel_rfl) pq rfl hS (fun w hS => x_add rfl (F.t 59 rfl) (w64 (by have := (hbf.gi 0).1; have := (hbf.gi 0).2; omega) (by have := (hbf.gi 0).1; have := (hbf.gi 0).2; omega))) rfl fun a F => ?_
  refine rT 10 F rfl (by kernel_rfl) pq rfl hS (fun w hS => x_sliceSlh (xs := ((gf dl (k : Int)).2)) Tryz.underlying9 (F.t 56 rfl) rfl (F.t 60 rfl) (by omega) (by have := (hbf.gi 0).1; have := (hbf.gi 0).2; omega) (by omega)) rfl fun a F => ?_
  refine rT 11 F rfl (by kernel_rfl) pq rfl hS (fun w hS => x_buildS (cells := #[.int .i64 (gf dl (k : Int)).1, .string (strOfNums (keyF (gf dl (k : Int)))), .string (strOfNums []), .int .i64 0]) (places := #[(0, 1), (1, 1), (2, 1), (3, 1)]) Tryz.underlying91 ty91 (by kernel_rfl) (by simp only [bM, F.t 55 rfl, F.t 61 rfl] <;> rfl) rfl) rfl fun a F => ?_
  refine r_do 12 rfl (by kernel_rfl) rfl rfl ?_
  refine w_alloc 9 F H rfl ty91 ?_
  clear F H; intro a w b9 F H
  refine aN (SL.of H (sub_cons (sub_cons (sub_cons (sub_cons (sub_cons (sub_cons (sub_nil _) 1501 rfl) 1500 rfl) 1499 rfl) 1001 rfl) 41 rfl) 901 rfl)) fun hS => ?_
  refine r_do 13 rfl (by kernel_rfl) rfl rfl ?_
  refine w_storeA 9 H ty91 rfl (F.t 9 rfl) (F.t 62 rfl) rfl (by simp [Value.cells, Value.oneCell']) rfl ?_
  clear H; intro w H
  refine aN (SL.of H (sub_cons (sub_cons (sub_cons (sub_cons (sub_cons (sub_cons (sub_nil _) 1501 rfl) 1500 rfl) 1499 rfl) 1001 rfl) 41 rfl) 901 rfl)) fun hS => ?_
  refine r_end (by kernel_rfl) ?_; clear hS
  refine hK18 _ _ (sr fun _ hK19 => la F rfl (x_move (F.t 8 rfl)) fun a F => la F rfl (x_move (F.t 8 rfl)) fun a F => la F rfl (x_idxS (xs := ((gf dl (k : Int)).2)) Tryz.underlying9 (F.t 64 rfl) rfl hbf (by omega) (by omega)) fun a F => la F rfl (x_conv Tryz.underlying3 ⟨_, Tryz.underlying5⟩ (F.t 65 rfl) (w64 (by have := (hbf.gi 0).1; have := (hbf.gi 0).2; omega) (by have := (hbf.gi 0).1; have := (hbf.gi 0).2; omega))) fun a F => la F rfl (x_add rfl (F.t 66 rfl) (w64 (by have := (hbf.gi 0).1; have := (hbf.gi 0).2; omega) (by have := (hbf.gi 0).1; have := (hbf.gi 0).2; omega))) fun a F => la F rfl (x_sliceSl (xs := ((gf dl (k : Int)).2)) Tryz.underlying9 (F.t 63 rfl) (F.t 67 rfl) (by have := (hbf.gi 0).1; have := (hbf.gi 0).2; omega) (by omega)) fun a F => ?_)
  refine la F rfl (x_assign (F.t 68 rfl)) fun a F => wn (hK19 _ _ ?_)
  refine wp_seq_k fun _ hK20 => ?_
  refine sr fun _ hK21 => la F rfl (x_faddr Tryz.underlying91 rfl ty89 (by decide) (F.t 9 rfl) rfl) fun a F => la F rfl (x_load1 ty89 (F.t 69 rfl) (blk_cell (H.at 9 rfl) 0 rfl)) fun a F => la F rfl (x_eql (F.t 70 rfl) rfl) fun a F => wn (hK21 _ _ ?_)
  refine wp_cond_split (F.t 71 rfl) (fun hc71 => ?_) (fun hc71 => ?_)
  ·have hk71_6 := hc71; try simp only [bL] at hc71
   refine sr fun _ hK22 => la F rfl (x_move (F.t 10 rfl)) fun a F => ?_
   refine lp rfl ?_
   refine w_call F (x_enter Tryz.func104 (by kernel_rfl) rfl (by simp only [bM, F.t 73 rfl] <;> rfl)) (rnumber_calls (xs := (restF (gf dl (k : Int)))) _ (by unfold restF; rw [List.length_drop]; omega) (hbf.drop _)) rfl rfl ?_
   rintro _ w ⟨vn, rfl, hm_, hfv, hvn⟩; refine ⟨_, rfl, ?_⟩; clear F; intro a F; have H := H.same hm_
   refine la F rfl (x_move (F.t 74 rfl)) fun a F => la F rfl (x_extract (F.t 72 rfl) rfl) fun a F => la F rfl (x_extract (F.t 72 rfl) rfl) fun a F => la F rfl (x_assign (F.t 75 rfl)) fun a F => la F rfl (x_assign (F.t 76 rfl)) fun a F => wn (hK22 _ _ ?_)
   refine wp_region_lit ?_
   refine la F rfl (x_move (F.t 11 rfl)) fun a F => la F rfl (x_faddr Tryz.underlying91 rfl ty2 (by decide) (F.t 9 rfl) rfl) fun a F => ?_
   refine lp rfl ?_
   refine w_store 9 H ty2 rfl (F.t 78 rfl) (F.t 77 rfl) rfl (one1 rfl rfl) (by first | decide | exact Nat.le_of_ble_eq_true rfl) ?_
   clear H; intro w H
   have hz := stepF_add (f := (gf dl (k : Int))) (by omega) (by omega) hc71 hvn
   have hsb := sa_bytes hbf hfv
   refine wn (hK20 _ _ ?_)
   refine wp_region_lit ?_
   refine la F rfl (x_move (F.t 6 rfl)) fun a F => la F rfl (x_loadn ty91 (F.t 9 rfl) rfl (blk_whole (H.at 9 rfl))) fun a F => ?_
   refine lp rfl ?_
   refine w_lit1 83 StE (((gf dl (k : Int)).1, keyF (gf dl (k : Int)), [], vn) : StepD) #[.int .i64 (((gf dl (k : Int)).1, keyF (gf dl (k : Int)), [], vn) : StepD).1, .string (strOfNums (((gf dl (k : Int)).1, keyF (gf dl (k : Int)), [], vn) : StepD).2.1), .string (strOfNums (((gf dl (k : Int)).1, keyF (gf dl (k : Int)), [], vn) : StepD).2.2.1), .int .i64 (((gf dl (k : Int)).1, keyF (gf dl (k : Int)), [], vn) : StepD).2.2.2] (fun _ => False) F H rfl Tryz.underlying62 ty91 (by simp only [bM, F.t 82 rfl] <;> rfl) (by decide) (by kernel_rfl) (st_mk (((gf dl (k : Int)).1, keyF (gf dl (k : Int)), [], vn) : StepD)) (fun kb hk => hk.elim) ?_
   clear F H; intro a w b83 F hb83_ H
   refine lp rfl ?_
   refine w_append 6 83 (xs := out) (ys := ([(((gf dl (k : Int)).1, keyF (gf dl (k : Int)), [], vn) : StepD)])) F H rfl Tryz.underlying62 ty91 rfl rfl rfl rfl ((H.rd 83 rfl)) oI (F.t 81 rfl) (F.t 83 rfl) (by rw [hq0_1.len]; simp only [List.length_cons, List.length_nil]; omega) (by rw [hq0_1.len]; simp only [List.length_cons, List.length_nil, maxLen]; omega) (fun _ => False) (fun w' v' h => st_any h) (fun k_ hk_ => hk_.elim) ?_
   clear F H; intro a w v84 F H
   refine la F rfl (x_assign (F.t 84 rfl)) fun a F => wn (hK12 _ _ ?_)
   refine wp_region_lit ?_
   refine la F rfl (x_move (F.t 7 rfl)) fun a F => la F rfl (x_add (F.t 31 rfl) rfl (w64 (by omega) (by omega))) fun a F => la F rfl (x_assign (F.t 32 rfl)) fun a F => ?_
   refine wpList_nil ?_
   exact ⟨_, by omega, ⟨k + 1, out ++ [(((gf dl (k : Int)).1, keyF (gf dl (k : Int)), [], vn) : StepD)], v84, rfl, by omega, hq0_1.step hz.2 hsb, ((((F.bare.add F 7 rfl).add F 6 rfl).add F 4 rfl).add F 0 rfl), H.sub _ (sub_cons (sub_cons (sub_cons (sub_nil _) 6 rfl) 41 rfl) 901 rfl)⟩⟩
  have hk71_7 := hc71; try simp only [bL] at hc71
  refine wp_region_lit ?_
  refine la F rfl (x_move (F.t 10 rfl)) fun a F => la F rfl (x_faddr Tryz.underlying91 rfl ty9 (by decide) (F.t 9 rfl) rfl) fun a F => ?_
  refine lp rfl ?_
  refine w_store 9 H ty9 rfl (F.t 80 rfl) (F.t 79 rfl) rfl (one1 rfl rfl) (by first | decide | exact Nat.le_of_ble_eq_true rfl) ?_
  clear H; intro w H
  have hz := stepF_val (f := (gf dl (k : Int))) (by omega) (by omega) hc71
  have hsb := sv_bytes hbf
  refine wn (hK20 _ _ ?_)
  refine wp_region_lit ?_
  refine la F rfl (x_move (F.t 6 rfl)) fun a F => la F rfl (x_loadn ty91 (F.t 9 rfl) rfl (blk_whole (H.at 9 rfl))) fun a F => ?_
  refine lp rfl ?_
  refine w_lit1 83 StE (((gf dl (k : Int)).1, keyF (gf dl (k : Int)), restF (gf dl (k : Int)), 0) : StepD) #[.int .i64 (((gf dl (k : Int)).1, keyF (gf dl (k : Int)), restF (gf dl (k : Int)), 0) : StepD).1, .string (strOfNums (((gf dl (k : Int)).1, keyF (gf dl (k : Int)), restF (gf dl (k : Int)), 0) : StepD).2.1), .string (strOfNums (((gf dl (k : Int)).1, keyF (gf dl (k : Int)), restF (gf dl (k : Int)), 0) : StepD).2.2.1), .int .i64 (((gf dl (k : Int)).1, keyF (gf dl (k : Int)), restF (gf dl (k : Int)), 0) : StepD).2.2.2] (fun _ => False) F H rfl Tryz.underlying62 ty91 (by simp only [bM, F.t 82 rfl] <;> rfl) (by decide) (by kernel_rfl) (st_mk (((gf dl (k : Int)).1, keyF (gf dl (k : Int)), restF (gf dl (k : Int)), 0) : StepD)) (fun kb hk => hk.elim) ?_
  clear F H; intro a w b83 F hb83_ H
  refine lp rfl ?_
  refine w_append 6 83 (xs := out) (ys := ([(((gf dl (k : Int)).1, keyF (gf dl (k : Int)), restF (gf dl (k : Int)), 0) : StepD)])) F H rfl Tryz.underlying62 ty91 rfl rfl rfl rfl ((H.rd 83 rfl)) oI (F.t 81 rfl) (F.t 83 rfl) (by rw [hq0_1.len]; simp only [List.length_cons, List.length_nil]; omega) (by rw [hq0_1.len]; simp only [List.length_cons, List.length_nil, maxLen]; omega) (fun _ => False) (fun w' v' h => st_any h) (fun k_ hk_ => hk_.elim) ?_
  clear F H; intro a w v84 F H
  refine la F rfl (x_assign (F.t 84 rfl)) fun a F => wn (hK12 _ _ ?_)
  refine wp_region_lit ?_
  refine la F rfl (x_move (F.t 7 rfl)) fun a F => la F rfl (x_add (F.t 31 rfl) rfl (w64 (by omega) (by omega))) fun a F => la F rfl (x_assign (F.t 32 rfl)) fun a F => ?_
  refine wpList_nil ?_
  exact ⟨_, by omega, ⟨k + 1, out ++ [(((gf dl (k : Int)).1, keyF (gf dl (k : Int)), restF (gf dl (k : Int)), 0) : StepD)], v84, rfl, by omega, hq0_1.step hz.2 hsb, ((((F.bare.add F 7 rfl).add F 6 rfl).add F 4 rfl).add F 0 rfl), H.sub _ (sub_cons (sub_cons (sub_cons (sub_nil _) 6 rfl) 41 rfl) 901 rfl)⟩⟩
 have hk30_8 := hc30; try simp only [bL] at hc30
 obtain rfl : k = dl.length := by omega
 refine wp_exit ?_
 refine hK8 _ _ (sr fun _ hK23 => ?_)
 obtain ⟨Ao6, co6, rfl⟩ := (H.row 6 rfl).form
 refine la F rfl (x_move (F.t 6 rfl)) fun a F => ?_
 refine lp rfl ?_
 refine w_call F (x_enter Tryz.func70 (by kernel_rfl) rfl (by simp only [bM, F.t 86 rfl] <;> rfl)) (raenc_calls _ (Row.rd (ok' := fun k_ => (fun _ => False) k_ ∨ (.slice Ao6 out.length co6 : Value).ownBlock = some k_) (H.row 6 rfl) (fun _ hk_ _ => .inl hk_) (fun _ hk_ => .inr hk_)) hq0_1.bytes) rfl rfl ?_
 rintro _ w ⟨vr87, rfl, hm_, hr_⟩; refine ⟨_, rfl, ?_⟩; clear F; intro a F; have H := Hp.rowOut H 87 hm_ hr_; obtain ⟨Ar87, cr87, rfl⟩ := (H.row 87 rfl).form
 refine la F rfl (x_move (F.t 87 rfl)) fun a F => la F rfl (x_extract (F.t 85 rfl) rfl) fun a F => la F rfl (x_extract (F.t 85 rfl) rfl) fun a F => la F rfl (x_assign (F.t 88 rfl)) fun a F => la F rfl (x_assign (F.t 89 rfl)) fun a F => wn (hK23 _ _ ?_)
 refine wp_seq_k fun _ hK24 => ?_
 refine sr fun _ hK25 => la F rfl (x_move (F.t 14 rfl)) fun a F => la F rfl (x_neq (F.t 90 rfl) rfl) fun a F => la F rfl (x_move (F.t 91 rfl)) fun a F => ?_
 refine split_bool F 92 rfl (fun hb92 => ?_) (fun hb92 => ?_)
 ·have hc92 := hb92; try simp only [bL] at hc92
  have hz := hq0_1.bad hby hdl h4 (fun h => hc92 h.1)
  refine los F hb92 rfl fun a F => los F hb92 rfl fun a F => los F hb92 rfl fun a F => los F hb92 rfl fun a F => los F hb92 rfl fun a F => la F rfl (x_pickT (F.t 92 rfl) hb92 rfl) fun a F => wn (hK25 _ _ ?_)
  refine wp_cond_true (F.t 98 rfl) ?_
  refine sr fun _ hK26 => la F rfl (x_assign rfl) fun a F => la F rfl (x_assign rfl) fun a F => wn (hK26 _ _ ?_)
  refine wp_ret ?_
  try simp only [Exit.then, Exit.inBlock]
  exact fin_ret F (res2 F rfl rfl rfl) ⟨.slice none 0 0, by rw [hz] <;> rfl, H.mods, by rw [hz]; exact RowOut.nil _ _ _ _⟩
 have hc92 := hb92; try simp only [bL] at hc92
 refine lgs F hb92 rfl (x_move (F.t 13 rfl)) fun a F => lgs F hb92 rfl (x_b2s Tryz.underlying27 Tryz.underlying5 Tryz.underlying9 (Row.rd (ok' := fun k_ => (fun _ => False) k_ ∨ (.slice Ar87 (encT out).length cr87 : Value).ownBlock = some k_) (H.row 87 rfl) (fun _ hk_ _ => .inl hk_) (fun _ hk_ => .inr hk_)) (F.t 93 rfl)) fun a F => lgs F hb92 rfl (x_move (F.t 0 rfl)) fun a F => lgs F hb92 rfl (x_b2s Tryz.underlying27 Tryz.underlying5 Tryz.underlying9 ((H.rd 901 rfl)) (F.t 95 rfl)) fun a F => lgs F hb92 rfl (x_nen (xs := (encT out)) (ys := bs) (F.t 94 rfl) (F.t 96 rfl) (encT_byte hq0_1.bytes) hby) fun a F => la F rfl (x_pickF (F.t 92 rfl) hb92 (F.t 97 rfl)) fun a F => wn (hK25 _ _ ?_)
 refine wp_cond_split (F.t 98 rfl) (fun hc98 => ?_) (fun hc98 => ?_)
 ·have hk98_9 := hc98; try simp only [bL] at hc98
  have hz := hq0_1.bad hby hdl h4 (fun h => hc98 h.2)
  refine sr fun _ hK27 => la F rfl (x_assign rfl) fun a F => la F rfl (x_assign rfl) fun a F => wn (hK27 _ _ ?_)
  refine wp_ret ?_
  try simp only [Exit.then, Exit.inBlock]
  exact fin_ret F (res2 F rfl rfl rfl) ⟨.slice none 0 0, by rw [hz] <;> rfl, H.mods, by rw [hz]; exact RowOut.nil _ _ _ _⟩
 have hk98_10 := hc98; try simp only [bL] at hc98
 have hz := hq0_1.good hdl hc92 hc98
 refine wp_skip (hK24 _ _ (sr fun _ hK28 => la F rfl (x_move (F.t 6 rfl)) fun a F => la F rfl (x_assign (F.t 99 rfl)) fun a F => la F rfl (x_assign rfl) fun a F => wn (hK28 _ _ ?_)))
 refine wp_ret ?_
 try simp only [Exit.then, Exit.inBlock]
 exact fin_ret F (res2 F rfl rfl rfl) ⟨_, by rw [hz] <;> rfl, H.mods, by rw [hz]; exact Hp.out H 6 rfl⟩
end Go.Proofs.YtiiklnghnifmjaaGreatDoor.Act
