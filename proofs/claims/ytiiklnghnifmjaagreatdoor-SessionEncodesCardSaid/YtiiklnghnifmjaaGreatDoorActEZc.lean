/- action's Decode, walked. -/
import Derived.Test.YtiiklnghnifmjaaGreatDoorActAZc
import Derived.Test.YtiiklnghnifmjaaGreatDoorActTZc
import Derived.Test.YtiiklnghnifmjaaGreatDoorMapZc
set_option linter.unusedVariables false
set_option maxRecDepth 100000
set_option maxHeartbeats 1000000
set_option linter.unusedSimpArgs false
namespace Go.Proofs.YtiiklnghnifmjaaGreatDoor.Act
open Go.RowKit Go.Proofs.YtiiklnghnifmjaaGreatDoor.Sx Go.Proofs.YtiiklnghnifmjaaGreatDoor.Cod Go.Proofs.YtiiklnghnifmjaaGreatDoor.Num
theorem step_calls (w0 : World) (hL : LibAt true w0) {x : Fld} {okx : Nat → Prop} {Ax : Option Addr} {cx : Nat} (hrx : Rd (.int .u8) w0 okx Ax x.2 cx) (hs : x.2.length ≤ 100000) (hby : Byte x.2) : Calls Tryz.prog 103 #[.agg #[.int .i64 x.1, .slice Ax x.2.length cx]] w0 fun e w' => ∃ s : StepD, e = .returned (.tuple #[.agg #[.int .i64 s.1, .string (strOfNums s.2.1), .string (strOfNums s.2.2.1), .int .i64 s.2.2.2], .bool (stepF x).isSome]) ∧ Mods (fun _ => False) w0 w' ∧ ∀ s', stepF x = some s' → s = s' := by
 refine cow Tryz.func103 rfl Tryz.ntmps103 (Nat.le_of_ble_eq_true rfl) fun a F => ?_
 have H := Hp.nil (fun _ => False) w0
 have H := H.libN 990 hL
 have H := H.arg 902 hrx.all (fun _ h => ⟨h, fun h => h⟩)
 refine sr fun _ hK1 => ?_
 refine lp rfl ?_
 refine w_box 1 F H rfl (F.t 0 rfl) ?_
 clear F H; intro a w b1 F H
 refine lp rfl ?_
 refine w_alloc 2 F H rfl ty91 ?_
 clear F H; intro a w b2 F H
 refine la F rfl (x_assign rfl) fun a F => wn (hK1 _ _ (sr fun _ hK2 => la F rfl (x_faddr Tryz.underlying57 rfl ty27 (by decide) (F.t 1 rfl) rfl) fun a F => la F rfl (x_load1 ty27 (F.t 8 rfl) (blk_cell (H.at 1 rfl) 1 rfl)) fun a F => la F rfl (x_b2s Tryz.underlying27 Tryz.underlying5 Tryz.underlying9 ((H.rd 902 rfl)) (F.t 9 rfl)) fun a F => la F rfl (x_assign (F.t 10 rfl)) fun a F => wn (hK2 _ _ ?_)))
 refine wp_seq_k fun _ hK3 => ?_
 refine sr fun _ hK4 => la F rfl (x_move (F.t 4 rfl)) fun a F => la F rfl (x_eqn0 (xs := x.2) (F.t 11 rfl) (show _ = Value.string (strOfNums ([] : List Int)) by kernel_rfl)) fun a F => la F rfl (x_move (F.t 12 rfl)) fun a F => ?_
 refine split_bool F 13 rfl (fun hb13 => ?_) (fun hb13 => ?_)
 ·have hc13 := hb13; try simp only [bL] at hc13
  have hz := stepF_short (.inl hc13)
  refine los F hb13 rfl fun a F => los F hb13 rfl fun a F => los F hb13 rfl fun a F => los F hb13 rfl fun a F => los F hb13 rfl fun a F => los F hb13 rfl fun a F => la F rfl (x_pickT (F.t 13 rfl) hb13 rfl) fun a F => wn (hK4 _ _ ?_)
  refine wp_cond_true (F.t 20 rfl) ?_
  refine sr fun _ hK5 => la F rfl (x_buildS (cells := #[.int .i64 0, .string (strOfNums []), .string (strOfNums []), .int .i64 0]) (places := #[(0, 1), (1, 1), (2, 1), (3, 1)]) Tryz.underlying91 ty91 (by kernel_rfl) Array.map_empty rfl) fun a F => ?_
  refine lp rfl ?_
  refine w_storeA 2 H ty91 rfl (F.t 2 rfl) (F.t 21 rfl) rfl (by simp [Value.cells, Value.oneCell']) rfl ?_
  clear H; intro w H
  refine la F rfl (x_assign rfl) fun a F => wn (hK5 _ _ ?_)
  refine wp_ret ?_
  try simp only [Exit.then, Exit.inBlock]
  exact fin_ret F (resct F rfl rfl rfl (H.at 2 rfl) ty91 rfl) ⟨((0, [], [], 0) : StepD), by rw [hz] <;> rfl, H.mods, fun s' h => by rw [hz] at h; cases h⟩
 have hc13 := hb13; try simp only [bL] at hc13
 refine lgs F hb13 rfl (x_move (F.t 4 rfl)) fun a F => lgs F hb13 rfl (x_len_sn (xs := x.2) Tryz.underlying9 (F.t 14 rfl)) fun a F => lgs F hb13 rfl (x_move (F.t 4 rfl)) fun a F => lgs F hb13 rfl (x_idxS (xs := x.2) Tryz.underlying9 (F.t 16 rfl) rfl hby (by omega) (by omega)) fun a F => lgs F hb13 rfl (x_conv Tryz.underlying3 ⟨_, Tryz.underlying5⟩ (F.t 17 rfl) (w64 (by have := (hby.gi 0).1; have := (hby.gi 0).2; omega) (by have := (hby.gi 0).1; have := (hby.gi 0).2; omega))) fun a F => lgs F hb13 rfl (x_leq (F.t 15 rfl) (F.t 18 rfl)) fun a F => la F rfl (x_pickF (F.t 13 rfl) hb13 (F.t 19 rfl)) fun a F => wn (hK4 _ _ ?_)
 refine wp_cond_split (F.t 20 rfl) (fun hc20 => ?_) (fun hc20 => ?_)
 ·have hk20_1 := hc20; try simp only [bL] at hc20
  have hz := stepF_short (.inr hc20)
  refine sr fun _ hK6 => la F rfl (x_buildS (cells := #[.int .i64 0, .string (strOfNums []), .string (strOfNums []), .int .i64 0]) (places := #[(0, 1), (1, 1), (2, 1), (3, 1)]) Tryz.underlying91 ty91 (by kernel_rfl) Array.map_empty rfl) fun a F => ?_
  refine lp rfl ?_
  refine w_storeA 2 H ty91 rfl (F.t 2 rfl) (F.t 21 rfl) rfl (by simp [Value.cells, Value.oneCell']) rfl ?_
  clear H; intro w H
  refine la F rfl (x_assign rfl) fun a F => wn (hK6 _ _ ?_)
  refine wp_ret ?_
  try simp only [Exit.then, Exit.inBlock]
  exact fin_ret F (resct F rfl rfl rfl (H.at 2 rfl) ty91 rfl) ⟨((0, [], [], 0) : StepD), by rw [hz] <;> rfl, H.mods, fun s' h => by rw [hz] at h; cases h⟩
 have hk20_2 := hc20; try simp only [bL] at hc20
 refine wp_skip (hK3 _ _ (sr fun _ hK7 => la F rfl (x_move (F.t 4 rfl)) fun a F => la F rfl (x_idxS (xs := x.2) Tryz.underlying9 (F.t 22 rfl) rfl hby (by omega) (by omega)) fun a F => la F rfl (x_conv Tryz.underlying3 ⟨_, Tryz.underlying5⟩ (F.t 23 rfl) (w64 (by have := (hby.gi 0).1; have := (hby.gi 0).2; omega) (by have := (hby.gi 0).1; have := (hby.gi 0).2; omega))) fun a F => la F rfl (x_add rfl (F.t 24 rfl) (w64 (by have := (hby.gi 0).1; have := (hby.gi 0).2; omega) (by have := (hby.gi 0).1; have := (hby.gi 0).2; omega))) fun a F => la F rfl (x_assign (F.t 25 rfl)) fun a F => ?_))
 refine wn (hK7 _ _ ?_)
 refine wp_seq_k fun _ hK8 => ?_
 refine r_start [(1, .blk b1 (.cells #[.int .i64 x.1, .slice Ax x.2.length cx] 57 (0, 0)))] (by kernel_rfl) H fun H => ?_
 have hS : SL [(1, .blk b1 (.cells #[.int .i64 x.1, .slice Ax x.2.length cx] 57 (0, 0)))] _ := SL.of H (sub_cons (sub_nil _) 1 rfl)
 refine rT 0 F rfl (by kernel_rfl) pq rfl hS (fun w hS => x_faddr Tryz.underlying57 rfl ty3 (by decide) (F.t 1 rfl) rfl) rfl fun a F => ?_
 refine rT 1 F rfl (by kernel_rfl) pq rfl hS (fun w hS => x_load1 ty3 (F.t 26 rfl) (blk_cell (SL.at_ hS 1 rfl) 0 rfl)) rfl fun a F => ?_
 refine rT 2 F rfl (by kernel_rfl) pq rfl hS (fun w hS => x_move (F.t 4 rfl)) rfl fun a F => ?_
 refine rT 3 F rfl (by kernel_rfl) pq rfl hS (fun w hS => x_move (F.t 5 rfl)) rfl fun a F => ?_
 refine rT 4 F rfl (by kernel_rfl) pq rfl hS (fun w hS => x_sliceSlh (xs := x.2) Tryz.underlying9 (F.t 28 rfl) rfl (F.t 29 rfl) (by omega) (by have := (hby.gi 0).1; have := (hby.gi 0).2; omega) (by omega)) rfl fun a F => ?_
 refine rT 5 F rfl (by kernel_rfl) pq rfl hS (fun w hS => x_buildS (cells := #[.int .i64 x.1, .string (strOfNums (keyF x)), .string (strOfNums []), .int .i64 0]) (places := #[(0, 1), (1, 1), (2, 1), (3, 1)]) Tryz.underlying91 ty91 (by kernel_rfl) (by simp only [bM, F.t 27 rfl, F.t 30 rfl] <;> rfl) rfl) rfl fun a F => ?_
 refine r_do 6 rfl (by kernel_rfl) rfl rfl ?_
 refine w_alloc 6 F H rfl ty91 ?_
 clear F H; intro a w b6 F H
 refine aN (SL.of H (sub_cons (sub_nil _) 1 rfl)) fun hS => ?_
 refine r_do 7 rfl (by kernel_rfl) rfl rfl ?_
 refine w_storeA 6 H ty91 rfl (F.t 6 rfl) (F.t 31 rfl) rfl (by simp [Value.cells, Value.oneCell']) rfl ?_
 clear H; intro w H
 refine aN (SL.of H (sub_cons (sub_nil _) 1 rfl)) fun hS => ?_
 refine r_end (by kernel_rfl) ?_; clear hS
 refine hK8 _ _ (sr fun _ hK9 => la F rfl (x_assign rfl) fun a F => wn (hK9 _ _ ?_))
 refine wp_seq_k fun _ hK10 => ?_
 refine sr fun _ hK11 => la F rfl (x_faddr Tryz.underlying91 rfl ty89 (by decide) (F.t 6 rfl) rfl) fun a F => la F rfl (x_load1 ty89 (F.t 32 rfl) (blk_cell (H.at 6 rfl) 0 rfl)) fun a F => la F rfl (x_eql (F.t 33 rfl) rfl) fun a F => wn (hK11 _ _ ?_)
 refine wp_cond_split (F.t 34 rfl) (fun hc34 => ?_) (fun hc34 => ?_)
 ·have hk34_3 := hc34; try simp only [bL] at hc34
  refine wp_region_lit ?_
  refine la F rfl (x_move (F.t 4 rfl)) fun a F => la F rfl (x_move (F.t 5 rfl)) fun a F => la F rfl (x_sliceSl (xs := x.2) Tryz.underlying9 (F.t 36 rfl) (F.t 37 rfl) (by have := (hby.gi 0).1; have := (hby.gi 0).2; omega) (by omega)) fun a F => ?_
  refine lp rfl ?_
  refine w_call F (x_enter Tryz.func113 (by kernel_rfl) rfl (by simp only [bM, F.t 38 rfl] <;> rfl)) (number_calls _ (H.holds 990 _ rfl) (by rw [List.length_drop]; omega) (hby.drop _)) rfl rfl ?_
  rintro _ w ⟨vn, rfl, hm_, hvn⟩; refine ⟨_, rfl, ?_⟩; clear F; intro a F; have H := H.same hm_
  refine la F rfl (x_move (F.t 39 rfl)) fun a F => la F rfl (x_extract (F.t 35 rfl) rfl) fun a F => la F rfl (x_extract (F.t 35 rfl) rfl) fun a F => la F rfl (x_faddr Tryz.underlying91 rfl ty2 (by decide) (F.t 6 rfl) rfl) fun a F => ?_
  refine lp rfl ?_
  refine w_store 6 H ty2 rfl (F.t 42 rfl) (F.t 40 rfl) rfl (one1 rfl rfl) (by first | decide | exact Nat.le_of_ble_eq_true rfl) ?_
  clear H; intro w H
  have hz := stepF_add hc13 hc20 hc34 hvn
  refine la F rfl (x_assign (F.t 41 rfl)) fun a F => wn (hK10 _ _ ?_)
  refine wp_seq_k fun _ hK12 => ?_
  refine r_start [(6, .blk b6 (.cells #[.int .i64 ((x.1, keyF x, [], vn) : StepD).1, .string (strOfNums ((x.1, keyF x, [], vn) : StepD).2.1), .string (strOfNums ((x.1, keyF x, [], vn) : StepD).2.2.1), .int .i64 ((x.1, keyF x, [], vn) : StepD).2.2.2] 91 (0, 0)))] (by kernel_rfl) H fun H => ?_
  have hS : SL [(6, .blk b6 (.cells #[.int .i64 ((x.1, keyF x, [], vn) : StepD).1, .string (strOfNums ((x.1, keyF x, [], vn) : StepD).2.1), .string (strOfNums ((x.1, keyF x, [], vn) : StepD).2.2.1), .int .i64 ((x.1, keyF x, [], vn) : StepD).2.2.2] 91 (0, 0)))] _ := SL.of H (sub_cons (sub_nil _) 6 rfl)
  refine rT 0 F rfl (by kernel_rfl) pq rfl hS (fun w hS => x_loadn ty91 (F.t 6 rfl) rfl (blk_whole (SL.at_ hS 6 rfl))) rfl fun a F => ?_
  refine rT 1 F rfl (by kernel_rfl) pq rfl hS (fun w hS => x_move (F.t 7 rfl)) rfl fun a F => ?_
  refine rT 2 F rfl (by kernel_rfl) pq rfl hS (fun w hS => x_move (F.t 48 rfl)) rfl fun a F => ?_
  refine split_bool F 49 rfl (fun hb49 => ?_) (fun hb49 => ?_)
  ·have hc49 := hb49; try simp only [bL] at hc49
   refine rT 3 F rfl (by kernel_rfl) pq ((wo F rfl).trans (by rw [hb49]; rfl)) hS (fun w hS => x_loadn ty91 (F.t 6 rfl) rfl (blk_whole (SL.at_ hS 6 rfl))) rfl fun a F => ?_
   refine r_do 4 rfl (by kernel_rfl) ((wo F rfl).trans (by rw [hb49]; rfl)) rfl ?_
   refine w_call F (x_enter Tryz.func98 (by kernel_rfl) rfl (by simp only [bM, F.t 50 rfl] <;> rfl)) (right_calls _ ((x.1, keyF x, [], vn) : StepD)) rfl rfl ?_
   rintro _ w ⟨rfl, hm_⟩; refine ⟨_, rfl, ?_⟩; clear F; intro a F; have H := H.same hm_
   refine aN (SL.of H (sub_cons (sub_nil _) 6 rfl)) fun hS => ?_
   refine rT 5 F rfl (by kernel_rfl) pq rfl hS (fun w hS => x_pickT (F.t 49 rfl) hb49 (F.t 51 rfl)) rfl fun a F => ?_
   refine r_do 6 rfl (by kernel_rfl) rfl rfl ?_
   refine w_storeA 2 H ty91 rfl (F.t 2 rfl) (F.t 47 rfl) rfl (by simp [Value.cells, Value.oneCell']) rfl ?_
   clear H; intro w H
   refine aN (SL.of H (sub_cons (sub_nil _) 6 rfl)) fun hS => ?_
   refine rT 7 F rfl (by kernel_rfl) pq rfl hS (fun w hS => x_assign (F.t 52 rfl)) rfl fun a F => ?_
   refine r_end (by kernel_rfl) ?_; clear hS
   refine hK12 _ _ ?_
   refine wp_ret ?_
   try simp only [Exit.then, Exit.inBlock]
   have hq : (rightS ((x.1, keyF x, [], vn) : StepD)) = (stepF x).isSome := by rw [hz.1]; show _ = ((numI (List.drop (1 + gi x.2 0).toNat x.2)).isSome && _); rw [hb49]; rfl
   exact fin_ret F (resct (u := .bool (rightS ((x.1, keyF x, [], vn) : StepD))) F rfl rfl rfl (H.at 2 rfl) ty91 rfl) ⟨((x.1, keyF x, [], vn) : StepD), by rw [← hq] <;> rfl, H.mods, hz.2⟩
  have hc49 := hb49; try simp only [bL] at hc49
  refine rO 3 F rfl (by kernel_rfl) pq ((wo F rfl).trans (by rw [hb49]; rfl)) hS rfl fun a F => ?_
  refine rO 4 F rfl (by kernel_rfl) pq ((wo F rfl).trans (by rw [hb49]; rfl)) hS rfl fun a F => ?_
  refine rT 5 F rfl (by kernel_rfl) pq rfl hS (fun w hS => x_pickF (F.t 49 rfl) hb49 rfl) rfl fun a F => ?_
  refine r_do 6 rfl (by kernel_rfl) rfl rfl ?_
  refine w_storeA 2 H ty91 rfl (F.t 2 rfl) (F.t 47 rfl) rfl (by simp [Value.cells, Value.oneCell']) rfl ?_
  clear H; intro w H
  refine aN (SL.of H (sub_cons (sub_nil _) 6 rfl)) fun hS => ?_
  refine rT 7 F rfl (by kernel_rfl) pq rfl hS (fun w hS => x_assign (F.t 52 rfl)) rfl fun a F => ?_
  refine r_end (by kernel_rfl) ?_; clear hS
  refine hK12 _ _ ?_
  refine wp_ret ?_
  try simp only [Exit.then, Exit.inBlock]
  have hq : false = (stepF x).isSome := by rw [hz.1]; show _ = ((numI (List.drop (1 + gi x.2 0).toNat x.2)).isSome && _); rw [hb49]; rfl
  exact fin_ret F (resct (u := .bool false) F rfl rfl rfl (H.at 2 rfl) ty91 rfl) ⟨((x.1, keyF x, [], vn) : StepD), by rw [← hq] <;> rfl, H.mods, hz.2⟩
 have hk34_4 := hc34; try simp only [bL] at hc34
 refine wp_region_lit ?_
 refine la F rfl (x_move (F.t 4 rfl)) fun a F => la F rfl (x_move (F.t 5 rfl)) fun a F => la F rfl (x_sliceSl (xs := x.2) Tryz.underlying9 (F.t 43 rfl) (F.t 44 rfl) (by have := (hby.gi 0).1; have := (hby.gi 0).2; omega) (by omega)) fun a F => la F rfl (x_faddr Tryz.underlying91 rfl ty9 (by decide) (F.t 6 rfl) rfl) fun a F => ?_
 refine lp rfl ?_
 refine w_store 6 H ty9 rfl (F.t 46 rfl) (F.t 45 rfl) rfl (one1 rfl rfl) (by first | decide | exact Nat.le_of_ble_eq_true rfl) ?_
 clear H; intro w H
 have hz := stepF_val hc13 hc20 hc34
 refine wn (hK10 _ _ ?_)
 refine wp_seq_k fun _ hK13 => ?_
 refine r_start [(6, .blk b6 (.cells #[.int .i64 x.1, .string (strOfNums (keyF x)), .string (strOfNums (restF x)), .int .i64 0] 91 (0, 0)))] (by kernel_rfl) H fun H => ?_
 have hS : SL [(6, .blk b6 (.cells #[.int .i64 x.1, .string (strOfNums (keyF x)), .string (strOfNums (restF x)), .int .i64 0] 91 (0, 0)))] _ := SL.of H (sub_cons (sub_nil _) 6 rfl)
 refine rT 0 F rfl (by kernel_rfl) pq rfl hS (fun w hS => x_loadn ty91 (F.t 6 rfl) rfl (blk_whole (SL.at_ hS 6 rfl))) rfl fun a F => ?_
 refine rT 1 F rfl (by kernel_rfl) pq rfl hS (fun w hS => x_move (F.t 7 rfl)) rfl fun a F => ?_
 refine rT 2 F rfl (by kernel_rfl) pq rfl hS (fun w hS => x_move (F.t 48 rfl)) rfl fun a F => ?_
 refine rT 3 F rfl (by kernel_rfl) pq ((wo F rfl).trans rfl) hS (fun w hS => x_loadn ty91 (F.t 6 rfl) rfl (blk_whole (SL.at_ hS 6 rfl))) rfl fun a F => ?_
 refine r_do 4 rfl (by kernel_rfl) ((wo F rfl).trans rfl) rfl ?_
 refine w_call F (x_enter Tryz.func98 (by kernel_rfl) rfl (by simp only [bM, F.t 50 rfl] <;> rfl)) (right_calls _ ((x.1, keyF x, restF x, 0) : StepD)) rfl rfl ?_
 rintro _ w ⟨rfl, hm_⟩; refine ⟨_, rfl, ?_⟩; clear F; intro a F; have H := H.same hm_
 refine aN (SL.of H (sub_cons (sub_nil _) 6 rfl)) fun hS => ?_
 refine rT 5 F rfl (by kernel_rfl) pq rfl hS (fun w hS => x_pickT (F.t 49 rfl) rfl (F.t 51 rfl)) rfl fun a F => ?_
 refine r_do 6 rfl (by kernel_rfl) rfl rfl ?_
 refine w_storeA 2 H ty91 rfl (F.t 2 rfl) (F.t 47 rfl) rfl (by simp [Value.cells, Value.oneCell']) rfl ?_
 clear H; intro w H
 refine aN (SL.of H (sub_cons (sub_nil _) 6 rfl)) fun hS => ?_
 refine rT 7 F rfl (by kernel_rfl) pq rfl hS (fun w hS => x_assign (F.t 52 rfl)) rfl fun a F => ?_
 refine r_end (by kernel_rfl) ?_; clear hS
 refine hK13 _ _ ?_
 refine wp_ret ?_
 try simp only [Exit.then, Exit.inBlock]
 have hq : (rightS ((x.1, keyF x, restF x, 0) : StepD)) = (stepF x).isSome := by exact hz.1.symm
 exact fin_ret F (resct (u := .bool (rightS ((x.1, keyF x, restF x, 0) : StepD))) F rfl rfl rfl (H.at 2 rfl) ty91 rfl) ⟨((x.1, keyF x, restF x, 0) : StepD), by rw [← hq] <;> rfl, H.mods, hz.2⟩
theorem adec_calls (w0 : World) (hL : LibAt true w0) {ok : Nat → Prop} {A : Option Addr} {bs : List Int} {c : Nat} (hrb : Rd (.int .u8) w0 ok A bs c) (hby : Byte bs) : Calls Tryz.prog 76 #[.slice A bs.length c] w0 fun e w' => ∃ v, e = .returned (.tuple #[v, .int .i64 (if (adecR bs).isSome then 0 else 12)]) ∧ Mods (fun _ => False) w0 w' ∧ RowOut StE 91 w0 w' v ((adecR bs).getD []) := by
 refine cow Tryz.func76 rfl Tryz.ntmps76 (Nat.le_of_ble_eq_true rfl) fun a F => ?_
 have H := Hp.nil (fun _ => False) w0
 have H := H.arg 901 hrb.all (fun _ h => ⟨h, fun h => h⟩)
 have hleb := hrb.le; unfold maxLen at hleb
 have H := H.libN 990 hL
 refine sr fun _ hK1 => la F rfl (x_assign rfl) fun a F => la F rfl (x_assign rfl) fun a F => wn (hK1 _ _ (sr fun _ hK2 => la F rfl (x_move (F.t 0 rfl)) fun a F => ?_))
 refine lp rfl ?_
 refine w_call F (x_enter Tryz.func36 (by kernel_rfl) rfl (by simp only [bM, F.t 12 rfl] <;> rfl)) (dec_calls _ ((H.rd 901 rfl)) hby) rfl rfl ?_
 rintro _ w ⟨vr41, rfl, hm_, okr41, hr_, hf_, ho41_⟩; refine ⟨_, rfl, ?_⟩; clear F; intro a F; have H := H.newRow 41 hm_ hr_ hf_ ho41_; obtain ⟨Ar41, cr41, rfl⟩ := (H.row 41 rfl).form
 refine la F rfl (x_move (F.t 13 rfl)) fun a F => la F rfl (x_extract (F.t 11 rfl) rfl) fun a F => la F rfl (x_extract (F.t 11 rfl) rfl) fun a F => la F rfl (x_assign (F.t 14 rfl)) fun a F => la F rfl (x_assign (F.t 15 rfl)) fun a F => wn (hK2 _ _ ?_)
 refine wp_seq_k fun _ hK3 => ?_
 refine sr fun _ hK4 => la F rfl (x_move (F.t 5 rfl)) fun a F => la F rfl (x_neq (F.t 16 rfl) rfl) fun a F => la F rfl (x_move (F.t 17 rfl)) fun a F => ?_
 refine split_bool F 18 rfl (fun hb18 => ?_) (fun hb18 => ?_)
 ·have hc18 := hb18; try simp only [bL] at hc18
  have hz : adecR bs = none := adec_none (by cases hd : decR bs with | none => rfl | some l => rw [hd] at hc18; exact absurd rfl hc18)
  refine los F hb18 rfl fun a F => los F hb18 rfl fun a F => los F hb18 rfl fun a F => la F rfl (x_pickT (F.t 18 rfl) hb18 rfl) fun a F => wn (hK4 _ _ ?_)
  refine wp_cond_true (F.t 22 rfl) ?_
  refine sr fun _ hK5 => la F rfl (x_assign rfl) fun a F => la F rfl (x_assign rfl) fun a F => wn (hK5 _ _ ?_)
  refine wp_ret ?_
  try simp only [Exit.then, Exit.inBlock]
  exact fin_ret F (res2 F rfl rfl rfl) ⟨.slice none 0 0, by rw [hz] <;> rfl, H.mods, by rw [hz]; exact RowOut.nil _ _ _ _⟩
 have hc18 := hb18; try simp only [bL] at hc18
 obtain ⟨dl, hdl⟩ := dec_zero hc18
 refine lgs F hb18 rfl (x_move (F.t 4 rfl)) fun a F => lgs F hb18 rfl (x_len_slice Tryz.underlying60 (F.t 19 rfl)) fun a F => lgs F hb18 rfl (x_gtr (F.t 20 rfl) rfl) fun a F => la F rfl (x_pickF (F.t 18 rfl) hb18 (F.t 21 rfl)) fun a F => wn (hK4 _ _ ?_)
 refine wp_cond_split (F.t 22 rfl) (fun hc22 => ?_) (fun hc22 => ?_)
 ·have hk22_1 := hc22; try simp only [bL] at hc22
  have hz := adec_many hdl (by rw [hdl] at hc22; exact hc22)
  refine sr fun _ hK6 => la F rfl (x_assign rfl) fun a F => la F rfl (x_assign rfl) fun a F => wn (hK6 _ _ ?_)
  refine wp_ret ?_
  try simp only [Exit.then, Exit.inBlock]
  exact fin_ret F (res2 F rfl rfl rfl) ⟨.slice none 0 0, by rw [hz] <;> rfl, H.mods, by rw [hz]; exact RowOut.nil _ _ _ _⟩
 have hk22_2 := hc22; try simp only [bL] at hc22
 have h4 : ¬ 4 < (dl.length : Int) := by rw [hdl] at hc22; exact hc22
 have hsm : ∀ x ∈ dl, x.2.length ≤ 2000 := fun x hx => (okF_parts (List.all_eq_true.1 (enc_parts (enc_dec hby hdl)).1 x hx)).2.2
 refine wp_skip (hK3 _ _ (sr fun _ hK7 => la F rfl (x_assign rfl) fun a F => ?_))
 rw [hdl, Option.getD_some] at F H
 have H := H.freeze 41 rfl (fun kb => okr41 kb ∨ (Value.slice Ar41 dl.length cr41).ownBlock = some kb) (fun kb => Iff.rfl)
 have H := H.row0 6 StE 91
 refine wn (hK7 _ _ ?_)
 refine wp_seq_k fun _ hK8 => ?_
 refine sr fun _ hK9 => la F rfl (x_move (F.t 4 rfl)) fun a F => la F rfl (x_len_slice Tryz.underlying60 (F.t 23 rfl)) fun a F => la F rfl (x_move rfl) fun a F => wn (hK9 _ _ (wp_block ?_))
 refine wp_loop_ghost (fun n_ a w => ∃ k : Nat, ∃ out : List StepD, ∃ v6 : Value, n_ = dl.length - k ∧ (k ≤ dl.length) ∧ (stepsF (dl.take k) = some out) ∧ Fr 42 a [(6, v6), (23, .slice Ar41 dl.length cr41), (24, .int .i64 (dl.length : Int)), (25, .int .i64 (k : Int))] ∧ Hp (fun _ => False) w0 w [(901, .rd_ (.int .u8) A bs c (fun k => k < w0.heap.size)), (990, .lib true), (41, .rd_ FE Ar41 dl cr41 (fun kb => okr41 kb ∨ (Value.slice Ar41 dl.length cr41).ownBlock = some kb)), (6, .row StE 91 v6 out (fun _ => False))]) (dl.length) ?_ ?_
 ·exact ⟨0, [], .slice none 0 0, rfl, by omega, rfl, ((((F.bare.add F 25 rfl).add F 24 rfl).add F 23 rfl).add F 6 rfl), H.sub _ (sub_cons (sub_cons (sub_cons (sub_cons (sub_nil _) 6 rfl) 41 rfl) 990 rfl) 901 rfl)⟩
 rintro _ a w ⟨k, out, v6, rfl, hq0_0, hq0_1, F, H⟩
 refine sr fun _ hK10 => la F rfl (x_lss (F.t 25 rfl) (F.t 24 rfl)) fun a F => wn (hK10 _ _ ?_)
 refine wp_seq_k fun _ hK11 => ?_
 refine wp_cond_split (F.t 26 rfl) (fun hc26 => ?_) (fun hc26 => ?_)
 ·have hk26_3 := hc26; try simp only [bL] at hc26
  refine wp_skip (hK11 _ _ ?_)
  refine wp_seq_k fun _ hK12 => ?_
  refine wp_block (sr fun _ hK13 => ?_)
  obtain ⟨fA1, fc1, hfr1, hf1_0, hf1_1, hfw1⟩ := Rd.fld ((H.rd 41 rfl)) (gf_some (xs := dl) (i := (k : Int)) (by omega) (by omega))
  have H := H.subrd 41 rfl 1001 hfr1 (fun _ h => h)
  have H := H.subcels 41 rfl 1499 hfw1 (Rd.inok ((H.rd 41 rfl)) (by omega) _)
  have H := H.subcel 41 rfl 1500 hf1_0 (Rd.inok ((H.rd 41 rfl)) (by omega) _)
  have H := H.subcel 41 rfl 1501 hf1_1 (Rd.inok ((H.rd 41 rfl)) (by omega) _)
  have hmem : (gf dl (k : Int)) ∈ dl := List.mem_of_getElem? (gf_some (xs := dl) (i := (k : Int)) (by omega) (by omega))
  refine la F rfl (x_iaddr_A Tryz.underlying60 ty57 ((H.rd 41 rfl)) (F.t 23 rfl) (F.t 25 rfl) (by omega) (by omega) _) fun a F => la F rfl (x_loadn ty57 (F.t 27 rfl) rfl (H.holds 1499 _ rfl)) fun a F => ?_
  refine lp rfl ?_
  refine w_alloc 8 F H rfl ty57 ?_
  clear F H; intro a w b8 F H
  refine lp rfl ?_
  refine w_storeA 8 H ty57 rfl (F.t 8 rfl) (F.t 28 rfl) rfl (by simp [Value.cells, Value.oneCell']) rfl ?_
  clear H; intro w H
  refine wn (hK13 _ _ (sr fun _ hK14 => la F rfl (x_loadn ty57 (F.t 8 rfl) rfl (blk_whole (H.at 8 rfl))) fun a F => ?_))
  refine lp rfl ?_
  refine w_call F (x_enter Tryz.func103 (by kernel_rfl) rfl (by simp only [bM, F.t 30 rfl] <;> rfl)) (step_calls _ (H.holds 990 _ rfl) (H.rd 1001 rfl) (by have := hsm (gf dl (k : Int)) hmem; omega) (fld_bytes hby hdl _ hmem)) rfl rfl ?_
  rintro _ w ⟨s, rfl, hm_, hvs⟩; refine ⟨_, rfl, ?_⟩; clear F; intro a F; have H := H.same hm_
  refine la F rfl (x_move (F.t 31 rfl)) fun a F => la F rfl (x_extract (F.t 29 rfl) rfl) fun a F => la F rfl (x_extract (F.t 29 rfl) rfl) fun a F => ?_
  refine lp rfl ?_
  refine w_alloc 9 F H rfl ty91 ?_
  clear F H; intro a w b9 F H
  refine lp rfl ?_
  refine w_storeA 9 H ty91 rfl (F.t 9 rfl) (F.t 32 rfl) rfl (by simp [Value.cells, Value.oneCell']) rfl ?_
  clear H; intro w H
  refine la F rfl (x_assign (F.t 33 rfl)) fun a F => wn (hK14 _ _ ?_)
  refine wp_seq_k fun _ hK15 => ?_
  refine sr fun _ hK16 => la F rfl (x_move (F.t 10 rfl)) fun a F => la F rfl (x_not (F.t 34 rfl)) fun a F => wn (hK16 _ _ ?_)
  refine wp_cond_split (F.t 35 rfl) (fun hc35 => ?_) (fun hc35 => ?_)
  ·have hk35_4 := hc35; try simp only [bL] at hc35
   have hz : adecR bs = none := (adec_is hdl h4).trans (dec_stop hc26 (by simpa using hc35))
   refine sr fun _ hK17 => la F rfl (x_assign rfl) fun a F => la F rfl (x_assign rfl) fun a F => wn (hK17 _ _ ?_)
   refine wp_ret ?_
   try simp only [Exit.then, Exit.inBlock]
   exact fin_ret F (res2 F rfl rfl rfl) ⟨.slice none 0 0, by rw [hz] <;> rfl, H.mods, by rw [hz]; exact RowOut.nil _ _ _ _⟩
  have hk35_5 := hc35; try simp only [bL] at hc35
  obtain ⟨s2, hs2⟩ := Option.isSome_iff_exists.1 (show (stepF (gf dl (k : Int))).isSome = true by simpa using hc35)
  obtain rfl := hvs s2 hs2
  have hnx := dec_loop hc26 hq0_1 hs2
  refine wp_skip (hK15 _ _ ?_)
  refine wp_region_lit ?_
  refine la F rfl (x_move (F.t 6 rfl)) fun a F => la F rfl (x_loadn ty91 (F.t 9 rfl) rfl (blk_whole (H.at 9 rfl))) fun a F => ?_
  refine lp rfl ?_
  refine w_lit1 38 StE s #[.int .i64 s.1, .string (strOfNums s.2.1), .string (strOfNums s.2.2.1), .int .i64 s.2.2.2] (fun _ => False) F H rfl Tryz.underlying62 ty91 (by simp only [bM, F.t 37 rfl] <;> rfl) (by decide) (by kernel_rfl) (st_mk (s : StepD)) (fun kb hk => hk.elim) ?_
  clear F H; intro a w b38 F hb38_ H
  refine lp rfl ?_
  refine w_append 6 38 (xs := out) (ys := ([s])) F H rfl Tryz.underlying62 ty91 rfl rfl rfl rfl ((H.rd 38 rfl)) oI (F.t 36 rfl) (F.t 38 rfl) (by have := stepsF_len hq0_1; rw [List.length_take] at this; simp only [List.length_cons, List.length_nil] at *; omega) (by have := stepsF_len hq0_1; rw [List.length_take] at this; simp only [List.length_cons, List.length_nil, maxLen] at *; omega) (fun _ => False) (fun w' v' h => st_any h) (fun k_ hk_ => hk_.elim) ?_
  clear F H; intro a w v39 F H
  refine la F rfl (x_assign (F.t 39 rfl)) fun a F => wn (hK12 _ _ ?_)
  refine wp_region_lit ?_
  refine la F rfl (x_add (F.t 25 rfl) rfl (w64 (by omega) (by omega))) fun a F => la F rfl (x_move (F.t 40 rfl)) fun a F => ?_
  refine wpList_nil ?_
  exact ⟨_, by omega, ⟨k + 1, out ++ [s], v39, rfl, by omega, hnx, ((((F.bare.add F 25 rfl).add F 24 rfl).add F 23 rfl).add F 6 rfl), H.sub _ (sub_cons (sub_cons (sub_cons (sub_cons (sub_nil _) 6 rfl) 41 rfl) 990 rfl) 901 rfl)⟩⟩
 have hk26_6 := hc26; try simp only [bL] at hc26
 obtain rfl : k = dl.length := by omega
 rw [List.take_length] at hq0_1
 have hz : adecR bs = some out := (adec_is hdl h4).trans hq0_1
 refine wp_exit ?_
 refine hK8 _ _ (sr fun _ hK18 => la F rfl (x_move (F.t 6 rfl)) fun a F => la F rfl (x_assign (F.t 41 rfl)) fun a F => la F rfl (x_assign rfl) fun a F => wn (hK18 _ _ ?_))
 refine wp_ret ?_
 try simp only [Exit.then, Exit.inBlock]
 exact fin_ret F (res2 F rfl rfl rfl) ⟨v6, by rw [hz] <;> rfl, H.mods, by rw [hz]; exact Hp.out H 6 rfl⟩
end Go.Proofs.YtiiklnghnifmjaaGreatDoor.Act
