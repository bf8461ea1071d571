/- The walks of changes. -/
import Derived.Test.YtiiklnghnifmjaaGreatDoorActAZc
import Derived.Test.YtiiklnghnifmjaaGreatDoorMsgDZc
import Derived.Test.YtiiklnghnifmjaaGreatDoorBunZc
set_option linter.unusedVariables false
set_option maxRecDepth 100000
set_option maxHeartbeats 1000000
set_option linter.unusedSimpArgs false
namespace Go.Proofs.YtiiklnghnifmjaaGreatDoor.Act
open Go.RowKit Go.Proofs.YtiiklnghnifmjaaGreatDoor.Sx Go.Proofs.YtiiklnghnifmjaaGreatDoor.Cod Go.Proofs.YtiiklnghnifmjaaGreatDoor.Num
theorem ty59 : TyI Tryz.prog 59 (.int .u64 0) 1 8 false := ⟨by kernel_rfl, _, Tryz.underlying59, rfl⟩
theorem ty61 : TyI Tryz.prog 61 (.int .i64 0) 1 8 false := ⟨by kernel_rfl, _, Tryz.underlying61, rfl⟩
theorem ty62 : TyI Tryz.prog 62 (.slice none 0 0) 1 24 false := ⟨by kernel_rfl, _, Tryz.underlying62, rfl⟩
theorem ty64 : TyI Tryz.prog 64 (.agg #[.string (strOfNums []), .int .i64 0, .int .u64 0, .int .u64 0, .slice none 0 0]) 5 64 true := ⟨by kernel_rfl, _, Tryz.underlying64, rfl⟩
theorem ty66 : TyI Tryz.prog 66 (.agg #[.int .i64 0, .string (strOfNums []), .string (strOfNums []), .string (strOfNums []), .int .i64 0, .int .u64 0, .int .u64 0, .slice none 0 0]) 8 104 true := ⟨by kernel_rfl, _, Tryz.underlying66, rfl⟩
theorem bI_calls (w0 : World) {n : Int} (hn : U64 n) : Calls Tryz.prog 28 #[.int .u64 n] w0 fun e w' => ∃ v, e = .returned v ∧ Mods (fun _ => False) w0 w' ∧ RowOut (.int .u8) 5 w0 w' v (bI n) := by
 have h := bytes_calls w0 n.toNat (by unfold U64 at hn; omega)
 rwa [show ((n.toNat : Nat) : Int) = n by unfold U64 at hn; omega] at h
theorem bare_calls (w0 : World) {t : TimerD} {okt0 : Nat → Prop} {At0 : Option Addr} {ct0 : Nat} (hrt0 : Rd StE w0 okt0 At0 t.steps ct0) : Calls Tryz.prog 83 #[.agg #[.string (strOfNums t.name), .int .i64 t.ver, .int .u64 t.tick, .int .u64 t.every, .slice At0 t.steps.length ct0]] w0 fun e w' => e = .returned (.bool (bareT t)) ∧ Mods (fun _ => False) w0 w' := by
 refine cow Tryz.func83 rfl Tryz.ntmps83 (Nat.le_of_ble_eq_true rfl) fun a F => ?_
 have H := Hp.nil (fun _ => False) w0
 have H := H.arg 900 hrt0.all (fun _ h => ⟨h, fun h => h⟩)
 have hlet0 := hrt0.le; unfold maxLen at hlet0
 refine sr fun _ hK1 => ?_
 refine lp rfl ?_
 refine w_box 1 F H rfl (F.t 0 rfl) ?_
 clear F H; intro a w b1 F H
 refine la F rfl (x_assign rfl) fun a F => wn (hK1 _ _ (sr fun _ hK2 => la F rfl (x_faddr Tryz.underlying64 rfl ty9 (by decide) (F.t 1 rfl) rfl) fun a F => la F rfl (x_load1 ty9 (F.t 3 rfl) (blk_cell (H.at 1 rfl) 0 rfl)) fun a F => la F rfl (x_eqn0 (xs := t.name) (F.t 4 rfl) (show _ = Value.string (strOfNums ([] : List Int)) by kernel_rfl)) fun a F => la F rfl (x_move (F.t 5 rfl)) fun a F => ?_))
 refine split_bool F 6 rfl (fun hb6 => ?_) (fun hb6 => ?_)
 ·have hc6 := hb6; try simp only [bL] at hc6
  refine lgs F hb6 rfl (x_faddr Tryz.underlying64 rfl ty3 (by decide) (F.t 1 rfl) rfl) fun a F => lgs F hb6 rfl (x_load1 ty3 (F.t 7 rfl) (blk_cell (H.at 1 rfl) 1 rfl)) fun a F => lgs F hb6 rfl (x_eql (F.t 8 rfl) rfl) fun a F => la F rfl (x_pickT (F.t 6 rfl) hb6 (F.t 9 rfl)) fun a F => la F rfl (x_move (F.t 10 rfl)) fun a F => ?_
  refine split_bool F 11 rfl (fun hb11 => ?_) (fun hb11 => ?_)
  ·have hc11 := hb11; try simp only [bL] at hc11
   refine lgs F hb11 rfl (x_faddr Tryz.underlying64 rfl ty59 (by decide) (F.t 1 rfl) rfl) fun a F => lgs F hb11 rfl (x_load1 ty59 (F.t 12 rfl) (blk_cell (H.at 1 rfl) 2 rfl)) fun a F => lgs F hb11 rfl (x_eql (F.t 13 rfl) rfl) fun a F => la F rfl (x_pickT (F.t 11 rfl) hb11 (F.t 14 rfl)) fun a F => la F rfl (x_move (F.t 15 rfl)) fun a F => ?_
   refine split_bool F 16 rfl (fun hb16 => ?_) (fun hb16 => ?_)
   ·have hc16 := hb16; try simp only [bL] at hc16
    refine lgs F hb16 rfl (x_faddr Tryz.underlying64 rfl ty59 (by decide) (F.t 1 rfl) rfl) fun a F => lgs F hb16 rfl (x_load1 ty59 (F.t 17 rfl) (blk_cell (H.at 1 rfl) 3 rfl)) fun a F => lgs F hb16 rfl (x_eql (F.t 18 rfl) rfl) fun a F => la F rfl (x_pickT (F.t 16 rfl) hb16 (F.t 19 rfl)) fun a F => la F rfl (x_move (F.t 20 rfl)) fun a F => ?_
    refine split_bool F 21 rfl (fun hb21 => ?_) (fun hb21 => ?_)
    ·have hc21 := hb21; try simp only [bL] at hc21
     refine lgs F hb21 rfl (x_faddr Tryz.underlying64 rfl ty62 (by decide) (F.t 1 rfl) rfl) fun a F => lgs F hb21 rfl (x_load1 ty62 (F.t 22 rfl) (blk_cell (H.at 1 rfl) 4 rfl)) fun a F => lgs F hb21 rfl (x_len_slice Tryz.underlying62 (F.t 23 rfl)) fun a F => lgs F hb21 rfl (x_eql (F.t 24 rfl) rfl) fun a F => la F rfl (x_pickT (F.t 21 rfl) hb21 (F.t 25 rfl)) fun a F => la F rfl (x_assign (F.t 26 rfl)) fun a F => wn (hK2 _ _ ?_)
     refine wp_ret ?_
     try simp only [Exit.then, Exit.inBlock]
     refine fin_ret F (res1 (v := .bool (decide ((t.steps.length : Int) = 0))) F rfl rfl) ⟨?_, H.mods⟩
     congr 2; unfold bareT; first | (simp [hc6, hc11, hc16, hc21]; done) | (simp [hc6, hc11, hc16, hc21]; omega) | (simp [hc6, hc11, hc16, hc21]; intros; omega) | (rw [Bool.eq_iff_iff]; simp [hc6, hc11, hc16, hc21]; first | omega | (intros; omega))
    have hc21 := hb21; try simp only [bL] at hc21
    refine los F hb21 rfl fun a F => los F hb21 rfl fun a F => los F hb21 rfl fun a F => los F hb21 rfl fun a F => la F rfl (x_pickF (F.t 21 rfl) hb21 rfl) fun a F => la F rfl (x_assign (F.t 26 rfl)) fun a F => wn (hK2 _ _ ?_)
    refine wp_ret ?_
    try simp only [Exit.then, Exit.inBlock]
    refine fin_ret F (res1 (v := .bool false) F rfl rfl) ⟨?_, H.mods⟩
    congr 2; unfold bareT; first | (simp [hc6, hc11, hc16, hc21]; done) | (simp [hc6, hc11, hc16, hc21]; omega) | (simp [hc6, hc11, hc16, hc21]; intros; omega) | (rw [Bool.eq_iff_iff]; simp [hc6, hc11, hc16, hc21]; first | omega | (intros; omega))
   have hc16 := hb16; try simp only [bL] at hc16
   refine los F hb16 rfl fun a F => los F hb16 rfl fun a F => los F hb16 rfl fun a F => la F rfl (x_pickF (F.t 16 rfl) hb16 rfl) fun a F => la F rfl (x_move (F.t 20 rfl)) fun a F => lo F rfl fun a F => lo F rfl fun a F => lo F rfl fun a F => ?_
   refine lo F rfl fun a F => la F rfl (x_pickF (F.t 21 rfl) rfl rfl) fun a F => la F rfl (x_assign (F.t 26 rfl)) fun a F => wn (hK2 _ _ ?_)
   refine wp_ret ?_
   try simp only [Exit.then, Exit.inBlock]
   refine fin_ret F (res1 (v := .bool false) F rfl rfl) ⟨?_, H.mods⟩
   congr 2; unfold bareT; first | (simp [hc6, hc11, hc16]; done) | (simp [hc6, hc11, hc16]; omega) | (simp [hc6, hc11, hc16]; intros; omega) | (rw [Bool.eq_iff_iff]; simp [hc6, hc11, hc16]; first | omega | (intros; omega))
  have hc11 := hb11; try simp only [bL] at hc11
  refine los F hb11 rfl fun a F => los F hb11 rfl fun a F => los F hb11 rfl fun a F => la F rfl (x_pickF (F.t 11 rfl) hb11 rfl) fun a F => la F rfl (x_move (F.t 15 rfl)) fun a F => lo F rfl fun a F => lo F rfl fun a F => lo F rfl fun a F => ?_
  refine la F rfl (x_pickF (F.t 16 rfl) rfl rfl) fun a F => la F rfl (x_move (F.t 20 rfl)) fun a F => lo F rfl fun a F => lo F rfl fun a F => lo F rfl fun a F => lo F rfl fun a F => la F rfl (x_pickF (F.t 21 rfl) rfl rfl) fun a F => la F rfl (x_assign (F.t 26 rfl)) fun a F => ?_
  refine wn (hK2 _ _ ?_)
  refine wp_ret ?_
  try simp only [Exit.then, Exit.inBlock]
  refine fin_ret F (res1 (v := .bool false) F rfl rfl) ⟨?_, H.mods⟩
  congr 2; unfold bareT; first | (simp [hc6, hc11]; done) | (simp [hc6, hc11]; omega) | (simp [hc6, hc11]; intros; omega) | (rw [Bool.eq_iff_iff]; simp [hc6, hc11]; first | omega | (intros; omega))
 have hc6 := hb6; try simp only [bL] at hc6
 refine los F hb6 rfl fun a F => los F hb6 rfl fun a F => los F hb6 rfl fun a F => la F rfl (x_pickF (F.t 6 rfl) hb6 rfl) fun a F => la F rfl (x_move (F.t 10 rfl)) fun a F => lo F rfl fun a F => lo F rfl fun a F => lo F rfl fun a F => ?_
 refine la F rfl (x_pickF (F.t 11 rfl) rfl rfl) fun a F => la F rfl (x_move (F.t 15 rfl)) fun a F => lo F rfl fun a F => lo F rfl fun a F => lo F rfl fun a F => la F rfl (x_pickF (F.t 16 rfl) rfl rfl) fun a F => la F rfl (x_move (F.t 20 rfl)) fun a F => lo F rfl fun a F => ?_
 refine lo F rfl fun a F => lo F rfl fun a F => lo F rfl fun a F => la F rfl (x_pickF (F.t 21 rfl) rfl rfl) fun a F => la F rfl (x_assign (F.t 26 rfl)) fun a F => wn (hK2 _ _ ?_)
 refine wp_ret ?_
 try simp only [Exit.then, Exit.inBlock]
 refine fin_ret F (res1 (v := .bool false) F rfl rfl) ⟨?_, H.mods⟩
 congr 2; unfold bareT; first | (simp [hc6]; done) | (simp [hc6]; omega) | (simp [hc6]; intros; omega) | (rw [Bool.eq_iff_iff]; simp [hc6]; first | omega | (intros; omega))
theorem rightT_calls (w0 : World) {pp : Bool} (hL : LibAt pp w0) {t : TimerD} {okt0 : Nat → Prop} {At0 : Option Addr} {ct0 : Nat} (hrt0 : Rd StE w0 okt0 At0 t.steps ct0) (hb : TimerB t) : Calls Tryz.prog 84 #[.agg #[.string (strOfNums t.name), .int .i64 t.ver, .int .u64 t.tick, .int .u64 t.every, .slice At0 t.steps.length ct0]] w0 fun e w' => e = .returned (.bool (rightT t)) ∧ Mods (fun _ => False) w0 w' := by
 refine cow Tryz.func84 rfl Tryz.ntmps84 (Nat.le_of_ble_eq_true rfl) fun a F => ?_
 have H := Hp.nil (fun _ => False) w0
 have H := H.arg 900 hrt0.all (fun _ h => ⟨h, fun h => h⟩)
 have hlet0 := hrt0.le; unfold maxLen at hlet0
 have H := H.libN 990 hL
 refine sr fun _ hK1 => ?_
 refine lp rfl ?_
 refine w_box 1 F H rfl (F.t 0 rfl) ?_
 clear F H; intro a w b1 F H
 refine la F rfl (x_assign rfl) fun a F => wn (hK1 _ _ (sr fun _ hK2 => la F rfl (x_faddr Tryz.underlying64 rfl ty62 (by decide) (F.t 1 rfl) rfl) fun a F => la F rfl (x_load1 ty62 (F.t 6 rfl) (blk_cell (H.at 1 rfl) 4 rfl)) fun a F => ?_))
 refine lp rfl ?_
 refine w_call F (x_enter Tryz.func68 (by kernel_rfl) rfl (by simp only [bM, F.t 7 rfl] <;> rfl)) (aenc_calls _ (H.holds 990 _ rfl) ((H.rd 900 rfl)) hb.steps) rfl rfl ?_
 rintro _ w ⟨vr9, rfl, hm_, hr_⟩; refine ⟨_, rfl, ?_⟩; clear F; intro a F; have H := Hp.rowOut H 9 hm_ hr_; obtain ⟨Ar9, cr9, rfl⟩ := (H.row 9 rfl).form
 refine la F rfl (x_move (F.t 8 rfl)) fun a F => la F rfl (x_extract (F.t 5 rfl) rfl) fun a F => la F rfl (x_extract (F.t 5 rfl) rfl) fun a F => la F rfl (x_assign (F.t 9 rfl)) fun a F => la F rfl (x_assign (F.t 10 rfl)) fun a F => wn (hK2 _ _ (sr fun _ hK3 => la F rfl (x_move (F.t 4 rfl)) fun a F => ?_))
 refine la F rfl (x_eql (F.t 11 rfl) rfl) fun a F => la F rfl (x_move (F.t 12 rfl)) fun a F => ?_
 refine split_bool F 13 rfl (fun hb13 => ?_) (fun hb13 => ?_)
 ·have hc13 := hb13; try simp only [bL] at hc13
  refine lgs F hb13 rfl (x_faddr Tryz.underlying64 rfl ty9 (by decide) (F.t 1 rfl) rfl) fun a F => lgs F hb13 rfl (x_load1 ty9 (F.t 14 rfl) (blk_cell (H.at 1 rfl) 0 rfl)) fun a F => lgs F hb13 rfl (x_nen0 (xs := t.name) (F.t 15 rfl) (show _ = Value.string (strOfNums ([] : List Int)) by kernel_rfl)) fun a F => la F rfl (x_pickT (F.t 13 rfl) hb13 (F.t 16 rfl)) fun a F => la F rfl (x_move (F.t 17 rfl)) fun a F => ?_
  refine split_bool F 18 rfl (fun hb18 => ?_) (fun hb18 => ?_)
  ·have hc18 := hb18; try simp only [bL] at hc18
   refine lgs F hb18 rfl (x_faddr Tryz.underlying64 rfl ty9 (by decide) (F.t 1 rfl) rfl) fun a F => lgs F hb18 rfl (x_load1 ty9 (F.t 19 rfl) (blk_cell (H.at 1 rfl) 0 rfl)) fun a F => lgs F hb18 rfl (x_len_sn (xs := t.name) Tryz.underlying9 (F.t 20 rfl)) fun a F => lgs F hb18 rfl (x_leq (F.t 21 rfl) rfl) fun a F => la F rfl (x_pickT (F.t 18 rfl) hb18 (F.t 22 rfl)) fun a F => la F rfl (x_move (F.t 23 rfl)) fun a F => ?_
   refine split_bool F 24 rfl (fun hb24 => ?_) (fun hb24 => ?_)
   ·have hc24 := hb24; try simp only [bL] at hc24
    refine lgs F hb24 rfl (x_faddr Tryz.underlying64 rfl ty3 (by decide) (F.t 1 rfl) rfl) fun a F => lgs F hb24 rfl (x_load1 ty3 (F.t 25 rfl) (blk_cell (H.at 1 rfl) 1 rfl)) fun a F => lgs F hb24 rfl (x_geq (F.t 26 rfl) rfl) fun a F => la F rfl (x_pickT (F.t 24 rfl) hb24 (F.t 27 rfl)) fun a F => la F rfl (x_move (F.t 28 rfl)) fun a F => ?_
    refine split_bool F 29 rfl (fun hb29 => ?_) (fun hb29 => ?_)
    ·have hc29 := hb29; try simp only [bL] at hc29
     refine lgs F hb29 rfl (x_faddr Tryz.underlying64 rfl ty3 (by decide) (F.t 1 rfl) rfl) fun a F => lgs F hb29 rfl (x_load1 ty3 (F.t 30 rfl) (blk_cell (H.at 1 rfl) 1 rfl)) fun a F => lgs F hb29 rfl (x_leq (F.t 31 rfl) rfl) fun a F => la F rfl (x_pickT (F.t 29 rfl) hb29 (F.t 32 rfl)) fun a F => la F rfl (x_move (F.t 33 rfl)) fun a F => ?_
     refine split_bool F 34 rfl (fun hb34 => ?_) (fun hb34 => ?_)
     ·have hc34 := hb34; try simp only [bL] at hc34
      refine lgs F hb34 rfl (x_faddr Tryz.underlying64 rfl ty59 (by decide) (F.t 1 rfl) rfl) fun a F => lgs F hb34 rfl (x_load1 ty59 (F.t 35 rfl) (blk_cell (H.at 1 rfl) 2 rfl)) fun a F => lgs F hb34 rfl (x_leq (F.t 36 rfl) rfl) fun a F => la F rfl (x_pickT (F.t 34 rfl) hb34 (F.t 37 rfl)) fun a F => la F rfl (x_move (F.t 38 rfl)) fun a F => ?_
      refine split_bool F 39 rfl (fun hb39 => ?_) (fun hb39 => ?_)
      ·have hc39 := hb39; try simp only [bL] at hc39
       refine lgs F hb39 rfl (x_faddr Tryz.underlying64 rfl ty59 (by decide) (F.t 1 rfl) rfl) fun a F => lgs F hb39 rfl (x_load1 ty59 (F.t 40 rfl) (blk_cell (H.at 1 rfl) 3 rfl)) fun a F => lgs F hb39 rfl (x_leq (F.t 41 rfl) rfl) fun a F => la F rfl (x_pickT (F.t 39 rfl) hb39 (F.t 42 rfl)) fun a F => la F rfl (x_assign (F.t 43 rfl)) fun a F => wn (hK3 _ _ ?_)
       refine wp_ret ?_
       try simp only [Exit.then, Exit.inBlock]
       refine fin_ret F (res1 (v := .bool (decide (t.every ≤ 4611686018427387904))) F rfl rfl) ⟨?_, H.mods⟩
       congr 2; unfold rightT; first | (simp [hc13, hc18, hc24, hc29, hc34, hc39]; done) | (simp [hc13, hc18, hc24, hc29, hc34, hc39]; omega) | (simp [hc13, hc18, hc24, hc29, hc34, hc39]; intros; omega) | (rw [Bool.eq_iff_iff]; simp [hc13, hc18, hc24, hc29, hc34, hc39]; first | omega | (intros; omega))
      have hc39 := hb39; try simp only [bL] at hc39
      refine los F hb39 rfl fun a F => los F hb39 rfl fun a F => los F hb39 rfl fun a F => la F rfl (x_pickF (F.t 39 rfl) hb39 rfl) fun a F => la F rfl (x_assign (F.t 43 rfl)) fun a F => wn (hK3 _ _ ?_)
      refine wp_ret ?_
      try simp only [Exit.then, Exit.inBlock]
      refine fin_ret F (res1 (v := .bool false) F rfl rfl) ⟨?_, H.mods⟩
      congr 2; unfold rightT; first | (simp [hc13, hc18, hc24, hc29, hc34, hc39]; done) | (simp [hc13, hc18, hc24, hc29, hc34, hc39]; omega) | (simp [hc13, hc18, hc24, hc29, hc34, hc39]; intros; omega) | (rw [Bool.eq_iff_iff]; simp [hc13, hc18, hc24, hc29, hc34, hc39]; first | omega | (intros; omega))
     have hc34 := hb34; try simp only [bL] at hc34
     refine los F hb34 rfl fun a F => los F hb34 rfl fun a F => los F hb34 rfl fun a F => la F rfl (x_pickF (F.t 34 rfl) hb34 rfl) fun a F => la F rfl (x_move (F.t 38 rfl)) fun a F => lo F rfl fun a F => lo F rfl fun a F => lo F rfl fun a F => ?_
     refine la F rfl (x_pickF (F.t 39 rfl) rfl rfl) fun a F => la F rfl (x_assign (F.t 43 rfl)) fun a F => wn (hK3 _ _ ?_)
     refine wp_ret ?_
     try simp only [Exit.then, Exit.inBlock]
     refine fin_ret F (res1 (v := .bool false) F rfl rfl) ⟨?_, H.mods⟩
     congr 2; unfold rightT; first | (simp [hc13, hc18, hc24, hc29, hc34]; done) | (simp [hc13, hc18, hc24, hc29, hc34]; omega) | (simp [hc13, hc18, hc24, hc29, hc34]; intros; omega) | (rw [Bool.eq_iff_iff]; simp [hc13, hc18, hc24, hc29, hc34]; first | omega | (intros; omega))
    have hc29 := hb29; try simp only [bL] at hc29
    refine los F hb29 rfl fun a F => los F hb29 rfl fun a F => los F hb29 rfl fun a F => la F rfl (x_pickF (F.t 29 rfl) hb29 rfl) fun a F => la F rfl (x_move (F.t 33 rfl)) fun a F => lo F rfl fun a F => lo F rfl fun a F => lo F rfl fun a F => ?_
    refine la F rfl (x_pickF (F.t 34 rfl) rfl rfl) fun a F => la F rfl (x_move (F.t 38 rfl)) fun a F => lo F rfl fun a F => lo F rfl fun a F => lo F rfl fun a F => la F rfl (x_pickF (F.t 39 rfl) rfl rfl) fun a F => la F rfl (x_assign (F.t 43 rfl)) fun a F => wn (hK3 _ _ ?_)
    refine wp_ret ?_
    try simp only [Exit.then, Exit.inBlock]
    refine fin_ret F (res1 (v := .bool false) F rfl rfl) ⟨?_, H.mods⟩
    congr 2; unfold rightT; first | (simp [hc13, hc18, hc24, hc29]; done) | (simp [hc13, hc18, hc24, hc29]; omega) | (simp [hc13, hc18, hc24, hc29]; intros; omega) | (rw [Bool.eq_iff_iff]; simp [hc13, hc18, hc24, hc29]; first | omega | (intros; omega))
   have hc24 := hb24; try simp only [bL] at hc24
   refine los F hb24 rfl fun a F => los F hb24 rfl fun a F => los F hb24 rfl fun a F => la F rfl (x_pickF (F.t 24 rfl) hb24 rfl) fun a F => la F rfl (x_move (F.t 28 rfl)) fun a F => lo F rfl fun a F => lo F rfl fun a F => lo F rfl fun a F => ?_
   refine la F rfl (x_pickF (F.t 29 rfl) rfl rfl) fun a F => la F rfl (x_move (F.t 33 rfl)) fun a F => lo F rfl fun a F => lo F rfl fun a F => lo F rfl fun a F => la F rfl (x_pickF (F.t 34 rfl) rfl rfl) fun a F => la F rfl (x_move (F.t 38 rfl)) fun a F => lo F rfl fun a F => ?_
   refine lo F rfl fun a F => lo F rfl fun a F => la F rfl (x_pickF (F.t 39 rfl) rfl rfl) fun a F => la F rfl (x_assign (F.t 43 rfl)) fun a F => wn (hK3 _ _ ?_)
   refine wp_ret ?_
   try simp only [Exit.then, Exit.inBlock]
   refine fin_ret F (res1 (v := .bool false) F rfl rfl) ⟨?_, H.mods⟩
   congr 2; unfold rightT; first | (simp [hc13, hc18, hc24]; done) | (simp [hc13, hc18, hc24]; omega) | (simp [hc13, hc18, hc24]; intros; omega) | (rw [Bool.eq_iff_iff]; simp [hc13, hc18, hc24]; first | omega | (intros; omega))
  have hc18 := hb18; try simp only [bL] at hc18
  refine los F hb18 rfl fun a F => los F hb18 rfl fun a F => los F hb18 rfl fun a F => los F hb18 rfl fun a F => la F rfl (x_pickF (F.t 18 rfl) hb18 rfl) fun a F => la F rfl (x_move (F.t 23 rfl)) fun a F => lo F rfl fun a F => lo F rfl fun a F => ?_
  refine lo F rfl fun a F => la F rfl (x_pickF (F.t 24 rfl) rfl rfl) fun a F => la F rfl (x_move (F.t 28 rfl)) fun a F => lo F rfl fun a F => lo F rfl fun a F => lo F rfl fun a F => la F rfl (x_pickF (F.t 29 rfl) rfl rfl) fun a F => la F rfl (x_move (F.t 33 rfl)) fun a F => ?_
  refine lo F rfl fun a F => lo F rfl fun a F => lo F rfl fun a F => la F rfl (x_pickF (F.t 34 rfl) rfl rfl) fun a F => la F rfl (x_move (F.t 38 rfl)) fun a F => lo F rfl fun a F => lo F rfl fun a F => lo F rfl fun a F => ?_
  refine la F rfl (x_pickF (F.t 39 rfl) rfl rfl) fun a F => la F rfl (x_assign (F.t 43 rfl)) fun a F => wn (hK3 _ _ ?_)
  refine wp_ret ?_
  try simp only [Exit.then, Exit.inBlock]
  refine fin_ret F (res1 (v := .bool false) F rfl rfl) ⟨?_, H.mods⟩
  congr 2; unfold rightT; first | (simp [hc13, hc18]; done) | (simp [hc13, hc18]; omega) | (simp [hc13, hc18]; intros; omega) | (rw [Bool.eq_iff_iff]; simp [hc13, hc18]; first | omega | (intros; omega))
 have hc13 := hb13; try simp only [bL] at hc13
 refine los F hb13 rfl fun a F => los F hb13 rfl fun a F => los F hb13 rfl fun a F => la F rfl (x_pickF (F.t 13 rfl) hb13 rfl) fun a F => la F rfl (x_move (F.t 17 rfl)) fun a F => lo F rfl fun a F => lo F rfl fun a F => lo F rfl fun a F => ?_
 refine lo F rfl fun a F => la F rfl (x_pickF (F.t 18 rfl) rfl rfl) fun a F => la F rfl (x_move (F.t 23 rfl)) fun a F => lo F rfl fun a F => lo F rfl fun a F => lo F rfl fun a F => la F rfl (x_pickF (F.t 24 rfl) rfl rfl) fun a F => la F rfl (x_move (F.t 28 rfl)) fun a F => ?_
 refine lo F rfl fun a F => lo F rfl fun a F => lo F rfl fun a F => la F rfl (x_pickF (F.t 29 rfl) rfl rfl) fun a F => la F rfl (x_move (F.t 33 rfl)) fun a F => lo F rfl fun a F => lo F rfl fun a F => lo F rfl fun a F => ?_
 refine la F rfl (x_pickF (F.t 34 rfl) rfl rfl) fun a F => la F rfl (x_move (F.t 38 rfl)) fun a F => lo F rfl fun a F => lo F rfl fun a F => lo F rfl fun a F => la F rfl (x_pickF (F.t 39 rfl) rfl rfl) fun a F => la F rfl (x_assign (F.t 43 rfl)) fun a F => wn (hK3 _ _ ?_)
 refine wp_ret ?_
 try simp only [Exit.then, Exit.inBlock]
 refine fin_ret F (res1 (v := .bool false) F rfl rfl) ⟨?_, H.mods⟩
 congr 2; unfold rightT; first | (simp [hc13]; done) | (simp [hc13]; omega) | (simp [hc13]; intros; omega) | (rw [Bool.eq_iff_iff]; simp [hc13]; first | omega | (intros; omega))
theorem rightC_calls (w0 : World) {pp : Bool} (hL : LibAt pp w0) {c : ChangeD} {okc0 : Nat → Prop} {Ac0 : Option Addr} {cc0 : Nat} (hrc0 : Rd StE w0 okc0 Ac0 c.timer.steps cc0) (hb : ChangeB c) : Calls Tryz.prog 49 #[.agg #[.int .i64 c.kind, .string (strOfNums c.key), .string (strOfNums c.value), .string (strOfNums c.timer.name), .int .i64 c.timer.ver, .int .u64 c.timer.tick, .int .u64 c.timer.every, .slice Ac0 c.timer.steps.length cc0]] w0 fun e w' => e = .returned (.bool (rightC c)) ∧ Mods (fun _ => False) w0 w' := by
 refine cow Tryz.func49 rfl Tryz.ntmps49 (Nat.le_of_ble_eq_true rfl) fun a F => ?_
 have H := Hp.nil (fun _ => False) w0
 have H := H.arg 900 hrc0.all (fun _ h => ⟨h, fun h => h⟩)
 have hlec0 := hrc0.le; unfold maxLen at hlec0
 have H := H.libN 990 hL
 refine sr fun _ hK1 => ?_
 refine lp rfl ?_
 refine w_box 1 F H rfl (F.t 0 rfl) ?_
 clear F H; intro a w b1 F H
 refine la F rfl (x_assign rfl) fun a F => wn (hK1 _ _ (sr fun _ hK2 => la F rfl (x_faddr Tryz.underlying66 rfl ty9 (by decide) (F.t 1 rfl) rfl) fun a F => la F rfl (x_load1 ty9 (F.t 4 rfl) (blk_cell (H.at 1 rfl) 1 rfl)) fun a F => la F rfl (x_nen0 (xs := c.key) (F.t 5 rfl) (show _ = Value.string (strOfNums ([] : List Int)) by kernel_rfl)) fun a F => la F rfl (x_move (F.t 6 rfl)) fun a F => ?_))
 refine split_bool F 7 rfl (fun hb7 => ?_) (fun hb7 => ?_)
 ·have hc7 := hb7; try simp only [bL] at hc7
  refine lgs F hb7 rfl (x_faddr Tryz.underlying66 rfl ty9 (by decide) (F.t 1 rfl) rfl) fun a F => lgs F hb7 rfl (x_load1 ty9 (F.t 8 rfl) (blk_cell (H.at 1 rfl) 1 rfl)) fun a F => lgs F hb7 rfl (x_len_sn (xs := c.key) Tryz.underlying9 (F.t 9 rfl)) fun a F => lgs F hb7 rfl (x_leq (F.t 10 rfl) rfl) fun a F => la F rfl (x_pickT (F.t 7 rfl) hb7 (F.t 11 rfl)) fun a F => la F rfl (x_move (F.t 12 rfl)) fun a F => ?_
  refine split_bool F 13 rfl (fun hb13 => ?_) (fun hb13 => ?_)
  ·have hc13 := hb13; try simp only [bL] at hc13
   refine lgs F hb13 rfl (x_faddr Tryz.underlying66 rfl ty64 (by decide) (F.t 1 rfl) rfl) fun a F => lgs F hb13 rfl (x_loadn (cs := #[.string (strOfNums c.timer.name), .int .i64 c.timer.ver, .int .u64 c.timer.tick, .int .u64 c.timer.every, .slice Ac0 c.timer.steps.length cc0]) ty64 (F.t 14 rfl) rfl (blk_sub (H.at 1 rfl) 3 5 rfl)) fun a F => ?_
   refine lpo ((wo F rfl).trans (by rw [hb13]; rfl)) ?_
   refine w_call F (x_enter Tryz.func83 (by kernel_rfl) rfl (by simp only [bM, F.t 15 rfl] <;> rfl)) (bare_calls _ ((H.rd 900 rfl))) rfl rfl ?_
   rintro _ w ⟨rfl, hm_⟩; refine ⟨_, rfl, ?_⟩; clear F; intro a F; have H := H.same hm_
   refine la F rfl (x_pickT (F.t 13 rfl) hb13 (F.t 16 rfl)) fun a F => la F rfl (x_assign (F.t 17 rfl)) fun a F => wn (hK2 _ _ ?_)
   refine wp_seq_k fun _ hK3 => ?_
   refine sr fun _ hK4 => la F rfl (x_faddr Tryz.underlying66 rfl ty61 (by decide) (F.t 1 rfl) rfl) fun a F => la F rfl (x_load1 ty61 (F.t 18 rfl) (blk_cell (H.at 1 rfl) 0 rfl)) fun a F => wn (hK4 _ _ (wp_block (sr fun _ hK5 => la F rfl (x_eql (F.t 19 rfl) rfl) fun a F => la F rfl (x_assign (F.t 21 rfl)) fun a F => ?_)))
   refine wn (hK5 _ _ ?_)
   refine wp_cond_split (F.t 20 rfl) (fun hc20 => ?_) (fun hc20 => ?_)
   ·have hk20_1 := hc20; try simp only [bL] at hc20
    refine sr fun _ hK6 => la F rfl (x_move (F.t 3 rfl)) fun a F => la F rfl (x_move (F.t 22 rfl)) fun a F => ?_
    refine split_bool F 23 rfl (fun hb23 => ?_) (fun hb23 => ?_)
    ·have hc23 := hb23; try simp only [bL] at hc23
     refine lgs F hb23 rfl (x_faddr Tryz.underlying66 rfl ty9 (by decide) (F.t 1 rfl) rfl) fun a F => lgs F hb23 rfl (x_load1 ty9 (F.t 24 rfl) (blk_cell (H.at 1 rfl) 2 rfl)) fun a F => lgs F hb23 rfl (x_len_sn (xs := c.value) Tryz.underlying9 (F.t 25 rfl)) fun a F => lgs F hb23 rfl (x_leq (F.t 26 rfl) rfl) fun a F => la F rfl (x_pickT (F.t 23 rfl) hb23 (F.t 27 rfl)) fun a F => la F rfl (x_assign (F.t 28 rfl)) fun a F => wn (hK6 _ _ ?_)
     refine wp_ret ?_
     try simp only [Exit.then, Exit.inBlock]
     refine fin_ret F (res1 (v := .bool (decide ((c.value.length : Int) ≤ 60))) F rfl rfl) ⟨?_, H.mods⟩
     congr 2; unfold rightC nameI; first | (simp [hc7, hc13, hc20, hc23]; done) | (simp [hc7, hc13, hc20, hc23]; omega) | (simp [hc7, hc13, hc20, hc23]; intros; omega) | (rw [Bool.eq_iff_iff]; simp [hc7, hc13, hc20, hc23]; first | omega | (intros; omega))
    have hc23 := hb23; try simp only [bL] at hc23
    refine los F hb23 rfl fun a F => los F hb23 rfl fun a F => los F hb23 rfl fun a F => los F hb23 rfl fun a F => la F rfl (x_pickF (F.t 23 rfl) hb23 rfl) fun a F => la F rfl (x_assign (F.t 28 rfl)) fun a F => wn (hK6 _ _ ?_)
    refine wp_ret ?_
    try simp only [Exit.then, Exit.inBlock]
    refine fin_ret F (res1 (v := .bool false) F rfl rfl) ⟨?_, H.mods⟩
    congr 2; unfold rightC nameI; first | (simp [hc7, hc13, hc20, hc23]; done) | (simp [hc7, hc13, hc20, hc23]; omega) | (simp [hc7, hc13, hc20, hc23]; intros; omega) | (rw [Bool.eq_iff_iff]; simp [hc7, hc13, hc20, hc23]; first | omega | (intros; omega))
   have hk20_2 := hc20; try simp only [bL] at hc20
   refine wp_seq_k fun _ hK7 => ?_
   refine sr fun _ hK8 => la F rfl (x_eql (F.t 19 rfl) rfl) fun a F => la F rfl (x_assign (F.t 30 rfl)) fun a F => wn (hK8 _ _ ?_)
   refine wp_cond_split (F.t 29 rfl) (fun hc29 => ?_) (fun hc29 => ?_)
   ·have hk29_3 := hc29; try simp only [bL] at hc29
    refine wp_skip (hK7 _ _ ?_)
    refine wp_cond_true ((F.t 29 rfl).trans (by rw [hk29_3])) ?_
    refine sr fun _ hK9 => la F rfl (x_move (F.t 3 rfl)) fun a F => la F rfl (x_move (F.t 32 rfl)) fun a F => ?_
    refine split_bool F 33 rfl (fun hb33 => ?_) (fun hb33 => ?_)
    ·have hc33 := hb33; try simp only [bL] at hc33
     refine lgs F hb33 rfl (x_faddr Tryz.underlying66 rfl ty9 (by decide) (F.t 1 rfl) rfl) fun a F => lgs F hb33 rfl (x_load1 ty9 (F.t 34 rfl) (blk_cell (H.at 1 rfl) 2 rfl)) fun a F => lgs F hb33 rfl (x_eqn0 (xs := c.value) (F.t 35 rfl) (show _ = Value.string (strOfNums ([] : List Int)) by kernel_rfl)) fun a F => la F rfl (x_pickT (F.t 33 rfl) hb33 (F.t 36 rfl)) fun a F => la F rfl (x_assign (F.t 37 rfl)) fun a F => wn (hK9 _ _ ?_)
     refine wp_ret ?_
     try simp only [Exit.then, Exit.inBlock]
     refine fin_ret F (res1 (v := .bool (decide (c.value.length = 0))) F rfl rfl) ⟨?_, H.mods⟩
     congr 2; unfold rightC nameI; first | (simp [hc7, hc13, hc20, hc29, hc33]; done) | (simp [hc7, hc13, hc20, hc29, hc33]; omega) | (simp [hc7, hc13, hc20, hc29, hc33]; intros; omega) | (rw [Bool.eq_iff_iff]; simp [hc7, hc13, hc20, hc29, hc33]; first | omega | (intros; omega))
    have hc33 := hb33; try simp only [bL] at hc33
    refine los F hb33 rfl fun a F => los F hb33 rfl fun a F => los F hb33 rfl fun a F => la F rfl (x_pickF (F.t 33 rfl) hb33 rfl) fun a F => la F rfl (x_assign (F.t 37 rfl)) fun a F => wn (hK9 _ _ ?_)
    refine wp_ret ?_
    try simp only [Exit.then, Exit.inBlock]
    refine fin_ret F (res1 (v := .bool false) F rfl rfl) ⟨?_, H.mods⟩
    congr 2; unfold rightC nameI; first | (simp [hc7, hc13, hc20, hc29, hc33]; done) | (simp [hc7, hc13, hc20, hc29, hc33]; omega) | (simp [hc7, hc13, hc20, hc29, hc33]; intros; omega) | (rw [Bool.eq_iff_iff]; simp [hc7, hc13, hc20, hc29, hc33]; first | omega | (intros; omega))
   have hk29_4 := hc29; try simp only [bL] at hc29
   refine wp_region_lit ?_
   refine la F rfl (x_eql (F.t 19 rfl) rfl) fun a F => la F rfl (x_assign (F.t 31 rfl)) fun a F => wn (hK7 _ _ ?_)
   refine wp_cond_split (F.t 29 rfl) (fun hc29 => ?_) (fun hc29 => ?_)
   ·have hk29_5 := hc29; try simp only [bL] at hc29
    refine sr fun _ hK10 => la F rfl (x_move (F.t 3 rfl)) fun a F => la F rfl (x_move (F.t 32 rfl)) fun a F => ?_
    refine split_bool F 33 rfl (fun hb33 => ?_) (fun hb33 => ?_)
    ·have hc33 := hb33; try simp only [bL] at hc33
     refine lgs F hb33 rfl (x_faddr Tryz.underlying66 rfl ty9 (by decide) (F.t 1 rfl) rfl) fun a F => lgs F hb33 rfl (x_load1 ty9 (F.t 34 rfl) (blk_cell (H.at 1 rfl) 2 rfl)) fun a F => lgs F hb33 rfl (x_eqn0 (xs := c.value) (F.t 35 rfl) (show _ = Value.string (strOfNums ([] : List Int)) by kernel_rfl)) fun a F => la F rfl (x_pickT (F.t 33 rfl) hb33 (F.t 36 rfl)) fun a F => la F rfl (x_assign (F.t 37 rfl)) fun a F => wn (hK10 _ _ ?_)
     refine wp_ret ?_
     try simp only [Exit.then, Exit.inBlock]
     refine fin_ret F (res1 (v := .bool (decide (c.value.length = 0))) F rfl rfl) ⟨?_, H.mods⟩
     congr 2; unfold rightC nameI; first | (simp [hc7, hc13, hc20, hc29, hc29, hc33]; done) | (simp [hc7, hc13, hc20, hc29, hc29, hc33]; omega) | (simp [hc7, hc13, hc20, hc29, hc29, hc33]; intros; omega) | (rw [Bool.eq_iff_iff]; simp [hc7, hc13, hc20, hc29, hc29, hc33]; first | omega | (intros; omega))
    have hc33 := hb33; try simp only [bL] at hc33
    refine los F hb33 rfl fun a F => los F hb33 rfl fun a F => los F hb33 rfl fun a F => la F rfl (x_pickF (F.t 33 rfl) hb33 rfl) fun a F => la F rfl (x_assign (F.t 37 rfl)) fun a F => wn (hK10 _ _ ?_)
    refine wp_ret ?_
    try simp only [Exit.then, Exit.inBlock]
    refine fin_ret F (res1 (v := .bool false) F rfl rfl) ⟨?_, H.mods⟩
    congr 2; unfold rightC nameI; first | (simp [hc7, hc13, hc20, hc29, hc29, hc33]; done) | (simp [hc7, hc13, hc20, hc29, hc29, hc33]; omega) | (simp [hc7, hc13, hc20, hc29, hc29, hc33]; intros; omega) | (rw [Bool.eq_iff_iff]; simp [hc7, hc13, hc20, hc29, hc29, hc33]; first | omega | (intros; omega))
   have hk29_6 := hc29; try simp only [bL] at hc29
   refine sr fun _ hK11 => la F rfl (x_eql (F.t 19 rfl) rfl) fun a F => la F rfl (x_assign (F.t 39 rfl)) fun a F => wn (hK11 _ _ ?_)
   refine wp_cond_split (F.t 38 rfl) (fun hc38 => ?_) (fun hc38 => ?_)
   ·have hk38_7 := hc38; try simp only [bL] at hc38
    refine sr fun _ hK12 => la F rfl (x_faddr Tryz.underlying66 rfl ty9 (by decide) (F.t 1 rfl) rfl) fun a F => la F rfl (x_load1 ty9 (F.t 40 rfl) (blk_cell (H.at 1 rfl) 1 rfl)) fun a F => la F rfl (x_eqn0 (xs := c.key) (F.t 41 rfl) (show _ = Value.string (strOfNums ([] : List Int)) by kernel_rfl)) fun a F => la F rfl (x_move (F.t 42 rfl)) fun a F => ?_
    have hb43 : ((decide (c.key.length = 0))) = false := (by simpa using hb7 : (decide (c.key.length = 0)) = false)
    refine los F hb43 rfl fun a F => los F hb43 rfl fun a F => los F hb43 rfl fun a F => la F rfl (x_pickF (F.t 43 rfl) hb43 rfl) fun a F => la F rfl (x_move (F.t 47 rfl)) fun a F => lo F rfl fun a F => lo F rfl fun a F => lo F rfl fun a F => ?_
    refine la F rfl (x_pickF (F.t 48 rfl) rfl rfl) fun a F => la F rfl (x_assign (F.t 52 rfl)) fun a F => wn (hK12 _ _ ?_)
    refine wp_ret ?_
    try simp only [Exit.then, Exit.inBlock]
    refine fin_ret F (res1 (v := .bool false) F rfl rfl) ⟨?_, H.mods⟩
    congr 2; unfold rightC nameI; first | (simp [hc7, hc13, hc20, hc29, hc29, hc38]; done) | (simp [hc7, hc13, hc20, hc29, hc29, hc38]; omega) | (simp [hc7, hc13, hc20, hc29, hc29, hc38]; intros; omega) | (rw [Bool.eq_iff_iff]; simp [hc7, hc13, hc20, hc29, hc29, hc38]; first | omega | (intros; omega))
   have hk38_8 := hc38; try simp only [bL] at hc38
   refine wp_skip (hK3 _ _ (sr fun _ hK13 => la F rfl (x_assign rfl) fun a F => wn (hK13 _ _ ?_)))
   refine wp_ret ?_
   try simp only [Exit.then, Exit.inBlock]
   refine fin_ret F (res1 (v := .bool false) F rfl rfl) ⟨?_, H.mods⟩
   congr 2; unfold rightC nameI; first | (simp [hc7, hc13, hc20, hc29, hc29, hc38]; done) | (simp [hc7, hc13, hc20, hc29, hc29, hc38]; omega) | (simp [hc7, hc13, hc20, hc29, hc29, hc38]; intros; omega) | (rw [Bool.eq_iff_iff]; simp [hc7, hc13, hc20, hc29, hc29, hc38]; first | omega | (intros; omega))
  have hc13 := hb13; try simp only [bL] at hc13
  refine los F hb13 rfl fun a F => los F hb13 rfl fun a F => los F hb13 rfl fun a F => la F rfl (x_pickF (F.t 13 rfl) hb13 rfl) fun a F => la F rfl (x_assign (F.t 17 rfl)) fun a F => wn (hK2 _ _ ?_)
  refine wp_seq_k fun _ hK14 => ?_
  refine sr fun _ hK15 => la F rfl (x_faddr Tryz.underlying66 rfl ty61 (by decide) (F.t 1 rfl) rfl) fun a F => la F rfl (x_load1 ty61 (F.t 18 rfl) (blk_cell (H.at 1 rfl) 0 rfl)) fun a F => wn (hK15 _ _ (wp_block (sr fun _ hK16 => la F rfl (x_eql (F.t 19 rfl) rfl) fun a F => la F rfl (x_assign (F.t 21 rfl)) fun a F => ?_)))
  refine wn (hK16 _ _ ?_)
  refine wp_cond_split (F.t 20 rfl) (fun hc20 => ?_) (fun hc20 => ?_)
  ·have hk20_9 := hc20; try simp only [bL] at hc20
   refine sr fun _ hK17 => la F rfl (x_move (F.t 3 rfl)) fun a F => la F rfl (x_move (F.t 22 rfl)) fun a F => lo F rfl fun a F => lo F rfl fun a F => lo F rfl fun a F => lo F rfl fun a F => la F rfl (x_pickF (F.t 23 rfl) rfl rfl) fun a F => ?_
   refine la F rfl (x_assign (F.t 28 rfl)) fun a F => wn (hK17 _ _ ?_)
   refine wp_ret ?_
   try simp only [Exit.then, Exit.inBlock]
   refine fin_ret F (res1 (v := .bool false) F rfl rfl) ⟨?_, H.mods⟩
   congr 2; unfold rightC nameI; first | (simp [hc7, hc13, hc20]; done) | (simp [hc7, hc13, hc20]; omega) | (simp [hc7, hc13, hc20]; intros; omega) | (rw [Bool.eq_iff_iff]; simp [hc7, hc13, hc20]; first | omega | (intros; omega))
  have hk20_10 := hc20; try simp only [bL] at hc20
  refine wp_seq_k fun _ hK18 => ?_
  refine sr fun _ hK19 => la F rfl (x_eql (F.t 19 rfl) rfl) fun a F => la F rfl (x_assign (F.t 30 rfl)) fun a F => wn (hK19 _ _ ?_)
  refine wp_cond_split (F.t 29 rfl) (fun hc29 => ?_) (fun hc29 => ?_)
  ·have hk29_11 := hc29; try simp only [bL] at hc29
   refine wp_skip (hK18 _ _ ?_)
   refine wp_cond_true ((F.t 29 rfl).trans (by rw [hk29_11])) ?_
   refine sr fun _ hK20 => la F rfl (x_move (F.t 3 rfl)) fun a F => la F rfl (x_move (F.t 32 rfl)) fun a F => lo F rfl fun a F => lo F rfl fun a F => lo F rfl fun a F => la F rfl (x_pickF (F.t 33 rfl) rfl rfl) fun a F => la F rfl (x_assign (F.t 37 rfl)) fun a F => ?_
   refine wn (hK20 _ _ ?_)
   refine wp_ret ?_
   try simp only [Exit.then, Exit.inBlock]
   refine fin_ret F (res1 (v := .bool false) F rfl rfl) ⟨?_, H.mods⟩
   congr 2; unfold rightC nameI; first | (simp [hc7, hc13, hc20, hc29]; done) | (simp [hc7, hc13, hc20, hc29]; omega) | (simp [hc7, hc13, hc20, hc29]; intros; omega) | (rw [Bool.eq_iff_iff]; simp [hc7, hc13, hc20, hc29]; first | omega | (intros; omega))
  have hk29_12 := hc29; try simp only [bL] at hc29
  refine wp_region_lit ?_
  refine la F rfl (x_eql (F.t 19 rfl) rfl) fun a F => la F rfl (x_assign (F.t 31 rfl)) fun a F => wn (hK18 _ _ ?_)
  refine wp_cond_split (F.t 29 rfl) (fun hc29 => ?_) (fun hc29 => ?_)
  ·have hk29_13 := hc29; try simp only [bL] at hc29
   refine sr fun _ hK21 => la F rfl (x_move (F.t 3 rfl)) fun a F => la F rfl (x_move (F.t 32 rfl)) fun a F => lo F rfl fun a F => lo F rfl fun a F => lo F rfl fun a F => la F rfl (x_pickF (F.t 33 rfl) rfl rfl) fun a F => la F rfl (x_assign (F.t 37 rfl)) fun a F => ?_
   refine wn (hK21 _ _ ?_)
   refine wp_ret ?_
   try simp only [Exit.then, Exit.inBlock]
   refine fin_ret F (res1 (v := .bool false) F rfl rfl) ⟨?_, H.mods⟩
   congr 2; unfold rightC nameI; first | (simp [hc7, hc13, hc20, hc29, hc29]; done) | (simp [hc7, hc13, hc20, hc29, hc29]; omega) | (simp [hc7, hc13, hc20, hc29, hc29]; intros; omega) | (rw [Bool.eq_iff_iff]; simp [hc7, hc13, hc20, hc29, hc29]; first | omega | (intros; omega))
  have hk29_14 := hc29; try simp only [bL] at hc29
  refine sr fun _ hK22 => la F rfl (x_eql (F.t 19 rfl) rfl) fun a F => la F rfl (x_assign (F.t 39 rfl)) fun a F => wn (hK22 _ _ ?_)
  refine wp_cond_split (F.t 38 rfl) (fun hc38 => ?_) (fun hc38 => ?_)
  ·have hk38_15 := hc38; try simp only [bL] at hc38
   refine sr fun _ hK23 => la F rfl (x_faddr Tryz.underlying66 rfl ty9 (by decide) (F.t 1 rfl) rfl) fun a F => la F rfl (x_load1 ty9 (F.t 40 rfl) (blk_cell (H.at 1 rfl) 1 rfl)) fun a F => la F rfl (x_eqn0 (xs := c.key) (F.t 41 rfl) (show _ = Value.string (strOfNums ([] : List Int)) by kernel_rfl)) fun a F => la F rfl (x_move (F.t 42 rfl)) fun a F => ?_
   have hb43 : ((decide (c.key.length = 0))) = false := (by simpa using hb7 : (decide (c.key.length = 0)) = false)
   refine los F hb43 rfl fun a F => los F hb43 rfl fun a F => los F hb43 rfl fun a F => la F rfl (x_pickF (F.t 43 rfl) hb43 rfl) fun a F => la F rfl (x_move (F.t 47 rfl)) fun a F => lo F rfl fun a F => lo F rfl fun a F => lo F rfl fun a F => ?_
   refine la F rfl (x_pickF (F.t 48 rfl) rfl rfl) fun a F => la F rfl (x_assign (F.t 52 rfl)) fun a F => wn (hK23 _ _ ?_)
   refine wp_ret ?_
   try simp only [Exit.then, Exit.inBlock]
   refine fin_ret F (res1 (v := .bool false) F rfl rfl) ⟨?_, H.mods⟩
   congr 2; unfold rightC nameI; first | (simp [hc7, hc13, hc20, hc29, hc29, hc38]; done) | (simp [hc7, hc13, hc20, hc29, hc29, hc38]; omega) | (simp [hc7, hc13, hc20, hc29, hc29, hc38]; intros; omega) | (rw [Bool.eq_iff_iff]; simp [hc7, hc13, hc20, hc29, hc29, hc38]; first | omega | (intros; omega))
  have hk38_16 := hc38; try simp only [bL] at hc38
  refine wp_skip (hK14 _ _ (sr fun _ hK24 => la F rfl (x_assign rfl) fun a F => wn (hK24 _ _ ?_)))
  refine wp_ret ?_
  try simp only [Exit.then, Exit.inBlock]
  refine fin_ret F (res1 (v := .bool false) F rfl rfl) ⟨?_, H.mods⟩
  congr 2; unfold rightC nameI; first | (simp [hc7, hc13, hc20, hc29, hc29, hc38]; done) | (simp [hc7, hc13, hc20, hc29, hc29, hc38]; omega) | (simp [hc7, hc13, hc20, hc29, hc29, hc38]; intros; omega) | (rw [Bool.eq_iff_iff]; simp [hc7, hc13, hc20, hc29, hc29, hc38]; first | omega | (intros; omega))
 have hc7 := hb7; try simp only [bL] at hc7
 refine los F hb7 rfl fun a F => los F hb7 rfl fun a F => los F hb7 rfl fun a F => los F hb7 rfl fun a F => la F rfl (x_pickF (F.t 7 rfl) hb7 rfl) fun a F => la F rfl (x_move (F.t 12 rfl)) fun a F => lo F rfl fun a F => lo F rfl fun a F => ?_
 refine lo F rfl fun a F => la F rfl (x_pickF (F.t 13 rfl) rfl rfl) fun a F => la F rfl (x_assign (F.t 17 rfl)) fun a F => wn (hK2 _ _ ?_)
 refine wp_seq_k fun _ hK25 => ?_
 refine sr fun _ hK26 => la F rfl (x_faddr Tryz.underlying66 rfl ty61 (by decide) (F.t 1 rfl) rfl) fun a F => la F rfl (x_load1 ty61 (F.t 18 rfl) (blk_cell (H.at 1 rfl) 0 rfl)) fun a F => wn (hK26 _ _ (wp_block (sr fun _ hK27 => la F rfl (x_eql (F.t 19 rfl) rfl) fun a F => la F rfl (x_assign (F.t 21 rfl)) fun a F => ?_)))
 refine wn (hK27 _ _ ?_)
 refine wp_cond_split (F.t 20 rfl) (fun hc20 => ?_) (fun hc20 => ?_)
 ·have hk20_17 := hc20; try simp only [bL] at hc20
  refine sr fun _ hK28 => la F rfl (x_move (F.t 3 rfl)) fun a F => la F rfl (x_move (F.t 22 rfl)) fun a F => lo F rfl fun a F => lo F rfl fun a F => lo F rfl fun a F => lo F rfl fun a F => la F rfl (x_pickF (F.t 23 rfl) rfl rfl) fun a F => ?_
  refine la F rfl (x_assign (F.t 28 rfl)) fun a F => wn (hK28 _ _ ?_)
  refine wp_ret ?_
  try simp only [Exit.then, Exit.inBlock]
  refine fin_ret F (res1 (v := .bool false) F rfl rfl) ⟨?_, H.mods⟩
  congr 2; unfold rightC nameI; first | (simp [hc7, hc20]; done) | (simp [hc7, hc20]; omega) | (simp [hc7, hc20]; intros; omega) | (rw [Bool.eq_iff_iff]; simp [hc7, hc20]; first | omega | (intros; omega))
 have hk20_18 := hc20; try simp only [bL] at hc20
 refine wp_seq_k fun _ hK29 => ?_
 refine sr fun _ hK30 => la F rfl (x_eql (F.t 19 rfl) rfl) fun a F => la F rfl (x_assign (F.t 30 rfl)) fun a F => wn (hK30 _ _ ?_)
 refine wp_cond_split (F.t 29 rfl) (fun hc29 => ?_) (fun hc29 => ?_)
 ·have hk29_19 := hc29; try simp only [bL] at hc29
  refine wp_skip (hK29 _ _ ?_)
  refine wp_cond_true ((F.t 29 rfl).trans (by rw [hk29_19])) ?_
  refine sr fun _ hK31 => la F rfl (x_move (F.t 3 rfl)) fun a F => la F rfl (x_move (F.t 32 rfl)) fun a F => lo F rfl fun a F => lo F rfl fun a F => lo F rfl fun a F => la F rfl (x_pickF (F.t 33 rfl) rfl rfl) fun a F => la F rfl (x_assign (F.t 37 rfl)) fun a F => ?_
  refine wn (hK31 _ _ ?_)
  refine wp_ret ?_
  try simp only [Exit.then, Exit.inBlock]
  refine fin_ret F (res1 (v := .bool false) F rfl rfl) ⟨?_, H.mods⟩
  congr 2; unfold rightC nameI; first | (simp [hc7, hc20, hc29]; done) | (simp [hc7, hc20, hc29]; omega) | (simp [hc7, hc20, hc29]; intros; omega) | (rw [Bool.eq_iff_iff]; simp [hc7, hc20, hc29]; first | omega | (intros; omega))
 have hk29_20 := hc29; try simp only [bL] at hc29
 refine wp_region_lit ?_
 refine la F rfl (x_eql (F.t 19 rfl) rfl) fun a F => la F rfl (x_assign (F.t 31 rfl)) fun a F => wn (hK29 _ _ ?_)
 refine wp_cond_split (F.t 29 rfl) (fun hc29 => ?_) (fun hc29 => ?_)
 ·have hk29_21 := hc29; try simp only [bL] at hc29
  refine sr fun _ hK32 => la F rfl (x_move (F.t 3 rfl)) fun a F => la F rfl (x_move (F.t 32 rfl)) fun a F => lo F rfl fun a F => lo F rfl fun a F => lo F rfl fun a F => la F rfl (x_pickF (F.t 33 rfl) rfl rfl) fun a F => la F rfl (x_assign (F.t 37 rfl)) fun a F => ?_
  refine wn (hK32 _ _ ?_)
  refine wp_ret ?_
  try simp only [Exit.then, Exit.inBlock]
  refine fin_ret F (res1 (v := .bool false) F rfl rfl) ⟨?_, H.mods⟩
  congr 2; unfold rightC nameI; first | (simp [hc7, hc20, hc29, hc29]; done) | (simp [hc7, hc20, hc29, hc29]; omega) | (simp [hc7, hc20, hc29, hc29]; intros; omega) | (rw [Bool.eq_iff_iff]; simp [hc7, hc20, hc29, hc29]; first | omega | (intros; omega))
 have hk29_22 := hc29; try simp only [bL] at hc29
 refine sr fun _ hK33 => la F rfl (x_eql (F.t 19 rfl) rfl) fun a F => la F rfl (x_assign (F.t 39 rfl)) fun a F => wn (hK33 _ _ ?_)
 refine wp_cond_split (F.t 38 rfl) (fun hc38 => ?_) (fun hc38 => ?_)
 ·have hk38_23 := hc38; try simp only [bL] at hc38
  refine sr fun _ hK34 => la F rfl (x_faddr Tryz.underlying66 rfl ty9 (by decide) (F.t 1 rfl) rfl) fun a F => la F rfl (x_load1 ty9 (F.t 40 rfl) (blk_cell (H.at 1 rfl) 1 rfl)) fun a F => la F rfl (x_eqn0 (xs := c.key) (F.t 41 rfl) (show _ = Value.string (strOfNums ([] : List Int)) by kernel_rfl)) fun a F => la F rfl (x_move (F.t 42 rfl)) fun a F => ?_
  have hb43 : ((decide (c.key.length = 0))) = true := (by simpa using hb7 : (decide (c.key.length = 0)) = true)
  refine lgs F hb43 rfl (x_faddr Tryz.underlying66 rfl ty9 (by decide) (F.t 1 rfl) rfl) fun a F => lgs F hb43 rfl (x_load1 ty9 (F.t 44 rfl) (blk_cell (H.at 1 rfl) 2 rfl)) fun a F => lgs F hb43 rfl (x_eqn0 (xs := c.value) (F.t 45 rfl) (show _ = Value.string (strOfNums ([] : List Int)) by kernel_rfl)) fun a F => la F rfl (x_pickT (F.t 43 rfl) hb43 (F.t 46 rfl)) fun a F => la F rfl (x_move (F.t 47 rfl)) fun a F => ?_
  refine split_bool F 48 rfl (fun hb48 => ?_) (fun hb48 => ?_)
  ·have hc48 := hb48; try simp only [bL] at hc48
   refine lgs F hb48 rfl (x_faddr Tryz.underlying66 rfl ty64 (by decide) (F.t 1 rfl) rfl) fun a F => lgs F hb48 rfl (x_loadn (cs := #[.string (strOfNums c.timer.name), .int .i64 c.timer.ver, .int .u64 c.timer.tick, .int .u64 c.timer.every, .slice Ac0 c.timer.steps.length cc0]) ty64 (F.t 49 rfl) rfl (blk_sub (H.at 1 rfl) 3 5 rfl)) fun a F => ?_
   refine lpo ((wo F rfl).trans (by rw [hb48]; rfl)) ?_
   refine w_call F (x_enter Tryz.func84 (by kernel_rfl) rfl (by simp only [bM, F.t 50 rfl] <;> rfl)) (rightT_calls _ (H.holds 990 _ rfl) ((H.rd 900 rfl)) hb.timer) rfl rfl ?_
   rintro _ w ⟨rfl, hm_⟩; refine ⟨_, rfl, ?_⟩; clear F; intro a F; have H := H.same hm_
   refine la F rfl (x_pickT (F.t 48 rfl) hb48 (F.t 51 rfl)) fun a F => la F rfl (x_assign (F.t 52 rfl)) fun a F => wn (hK34 _ _ ?_)
   refine wp_ret ?_
   try simp only [Exit.then, Exit.inBlock]
   refine fin_ret F (res1 (v := .bool (rightT c.timer)) F rfl rfl) ⟨?_, H.mods⟩
   congr 2; unfold rightC nameI; first | (simp [hc7, hc20, hc29, hc29, hc38, hc48]; done) | (simp [hc7, hc20, hc29, hc29, hc38, hc48]; omega) | (simp [hc7, hc20, hc29, hc29, hc38, hc48]; intros; omega) | (rw [Bool.eq_iff_iff]; simp [hc7, hc20, hc29, hc29, hc38, hc48]; first | omega | (intros; omega))
  have hc48 := hb48; try simp only [bL] at hc48
  refine los F hb48 rfl fun a F => los F hb48 rfl fun a F => los F hb48 rfl fun a F => la F rfl (x_pickF (F.t 48 rfl) hb48 rfl) fun a F => la F rfl (x_assign (F.t 52 rfl)) fun a F => wn (hK34 _ _ ?_)
  refine wp_ret ?_
  try simp only [Exit.then, Exit.inBlock]
  refine fin_ret F (res1 (v := .bool false) F rfl rfl) ⟨?_, H.mods⟩
  congr 2; unfold rightC nameI; first | (simp [hc7, hc20, hc29, hc29, hc38, hc48]; done) | (simp [hc7, hc20, hc29, hc29, hc38, hc48]; omega) | (simp [hc7, hc20, hc29, hc29, hc38, hc48]; intros; omega) | (rw [Bool.eq_iff_iff]; simp [hc7, hc20, hc29, hc29, hc38, hc48]; first | omega | (intros; omega))
 have hk38_24 := hc38; try simp only [bL] at hc38
 refine wp_skip (hK25 _ _ (sr fun _ hK35 => la F rfl (x_assign rfl) fun a F => wn (hK35 _ _ ?_)))
 refine wp_ret ?_
 try simp only [Exit.then, Exit.inBlock]
 refine fin_ret F (res1 (v := .bool false) F rfl rfl) ⟨?_, H.mods⟩
 congr 2; unfold rightC nameI; first | (simp [hc7, hc20, hc29, hc29, hc38]; done) | (simp [hc7, hc20, hc29, hc29, hc38]; omega) | (simp [hc7, hc20, hc29, hc29, hc38]; intros; omega) | (rw [Bool.eq_iff_iff]; simp [hc7, hc20, hc29, hc29, hc38]; first | omega | (intros; omega))
theorem add_calls (w0 : World) {bl : Nat} {Al : Option Addr} {fs : List Fld} {cl : Nat} {okl : Nat → Prop} (hok : (Asn.all [(804, .blk bl (.cells #[.slice Al fs.length cl] 60 (0, 0))), (840, .row FE 57 (.slice Al fs.length cl) fs okl)]).ok w0) (hfl : fs.length ≤ 100) (t : Int) {okd : Nat → Prop} {Ad : Option Addr} {d : List Int} {cd : Nat} (hrd : Rd (.int .u8) w0 okd Ad d cd) (hin : ∀ k, okd k → k < w0.heap.size) (hap : ∀ k, okd k → ¬ OwnL [(804, .blk bl (.cells #[.slice Al fs.length cl] 60 (0, 0))), (840, .row FE 57 (.slice Al fs.length cl) fs okl)] k) : Calls Tryz.prog 67 #[.int .i64 t, .slice Ad d.length cd, .pointer (some ⟨bl, 0, none⟩)] w0 fun e w' => ∃ An cn okn, e = .returned (.tuple #[]) ∧ Grew (fun _ => False) okd (Asn.all [(804, .blk bl (.cells #[.slice Al fs.length cl] 60 (0, 0))), (840, .row FE 57 (.slice Al fs.length cl) fs okl)]) w0 w' (Asn.all [(804, .blk bl (.cells #[.slice An (fs ++ [((t, d) : Fld)]).length cn] 60 (0, 0))), (840, .row FE 57 (.slice An (fs ++ [((t, d) : Fld)]).length cn) (fs ++ [((t, d) : Fld)]) okn)]) := by
 refine cow Tryz.func67 rfl Tryz.ntmps67 (Nat.le_of_ble_eq_true rfl) fun a F => ?_
 have H := Hp.ofAll hok.holds
 have H := H.readable 901 hrd hin (fun i A_ hA k hk hk2 => hap k hk2 ⟨i, A_, hA, hk⟩)
 refine wp_region_lit ?_
 refine la F rfl (x_load1 ty60 (F.t 2 rfl) (blk_cell (H.at 804 rfl) 0 rfl)) fun a F => la F rfl (x_move (F.t 0 rfl)) fun a F => la F rfl (x_move (F.t 1 rfl)) fun a F => la F rfl (x_buildS (cells := #[.int .i64 t, .slice Ad d.length cd]) (places := #[(0, 1), (1, 1)]) Tryz.underlying57 ty57 (by kernel_rfl) (by simp only [bM, F.t 6 rfl, F.t 7 rfl] <;> rfl) rfl) fun a F => ?_
 refine lp rfl ?_
 refine w_lit1 9 FE ((t, d) : Fld) #[.int .i64 t, .slice Ad d.length cd] okd F H rfl Tryz.underlying60 ty57 (by simp only [bM, F.t 8 rfl] <;> rfl) (by decide) (by kernel_rfl) (fld_mk (f := ((t, d) : Fld)) ((H.rd 901 rfl))) (fun kb hk => ⟨901, _, rfl, hk⟩) ?_
 clear F H; intro a w b9 F hb9_ H
 refine lp rfl ?_
 refine w_append 840 9 (xs := fs) (ys := ([((t, d) : Fld)])) F H rfl Tryz.underlying60 ty57 rfl rfl rfl rfl ((H.rd 9 rfl)) oI (F.t 5 rfl) (F.t 9 rfl) (by simp only [lN]; omega) (by simp only [lN, maxLen]; omega) (fun kb => okl kb ∨ (fun kb => okd kb ∨ kb = b9) kb) (fun w' v' h => h) (by rintro k_ (hk_ | hk_); exact .inl hk_; exact .inr hk_) ?_
 clear F H; intro a w v10 F H
 obtain ⟨A10, c10, rfl⟩ := (H.row 840 rfl).form
 obtain ⟨okn, hokn⟩ : ∃ okn, okn = (fun kb => okl kb ∨ (fun kb => okd kb ∨ kb = b9) kb) := ⟨_, rfl⟩
 rw [← hokn] at H
 refine lp rfl ?_
 refine w_store 804 H ty60 rfl (F.t 2 rfl) (F.t 10 rfl) rfl (one1 rfl rfl) (by first | decide | exact Nat.le_of_ble_eq_true rfl) ?_
 clear H; intro w H
 refine wpList_nil ?_
 try simp only [Exit.then, Exit.inBlock]
 try simp only [if_true]
 refine fin_end F (res0 rfl) ⟨A10, c10, okn, rfl, grew_of (H.sub [(804, .blk bl (.cells #[.slice A10 (fs ++ [((t, d) : Fld)]).length c10] 60 (0, 0))), (840, .row FE 57 (.slice A10 (fs ++ [((t, d) : Fld)]).length c10) (fs ++ [((t, d) : Fld)]) okn)] (sub_cons (sub_cons (sub_nil _) 840 rfl) 804 rfl)) (rdin_cons (fun k h => h.elim) (rdin_cons (fun k h => ?_) rdin_nil))⟩
 rw [hokn] at h; rcases h with h | h | h
 ·exact .inr (.inl ⟨840, _, rfl, h⟩)
 ·exact .inr (.inr (.inl h))
 subst h; rcases hb9_ with ⟨i, X, hX, hk⟩ | hk; exact .inl ⟨i, X, hX, hk⟩; exact .inr (.inr (.inr hk))
theorem encC_calls (w0 : World) {pp : Bool} (hL : LibAt pp w0) {c : ChangeD} {okc0 : Nat → Prop} {Ac0 : Option Addr} {cc0 : Nat} (hrc0 : Rd StE w0 okc0 Ac0 c.timer.steps cc0) (hb : ChangeB c) : Calls Tryz.prog 29 #[.agg #[.int .i64 c.kind, .string (strOfNums c.key), .string (strOfNums c.value), .string (strOfNums c.timer.name), .int .i64 c.timer.ver, .int .u64 c.timer.tick, .int .u64 c.timer.every, .slice Ac0 c.timer.steps.length cc0]] w0 fun e w' => ∃ v, e = .returned (.tuple #[v, .int .i64 (encCE c)]) ∧ Mods (fun _ => False) w0 w' ∧ RowOut (.int .u8) 5 w0 w' v (encC c) := by
 refine cow Tryz.func29 rfl Tryz.ntmps29 (Nat.le_of_ble_eq_true rfl) fun a F => ?_
 have H := Hp.nil (fun _ => False) w0
 have H := H.arg 900 hrc0.all (fun _ h => ⟨h, fun h => h⟩)
 have hlec0 := hrc0.le; unfold maxLen at hlec0
 have H := H.libN 990 hL
 refine sr fun _ hK1 => ?_
 refine lp rfl ?_
 refine w_box 1 F H rfl (F.t 0 rfl) ?_
 clear F H; intro a w b1 F H
 refine la F rfl (x_assign rfl) fun a F => la F rfl (x_assign rfl) fun a F => wn (hK1 _ _ ?_)
 refine wp_seq_k fun _ hK2 => ?_
 refine sr fun _ hK3 => la F rfl (x_loadn ty66 (F.t 1 rfl) rfl (blk_whole (H.at 1 rfl))) fun a F => ?_
 refine lp rfl ?_
 refine w_call F (x_enter Tryz.func49 (by kernel_rfl) rfl (by simp only [bM, F.t 8 rfl] <;> rfl)) (rightC_calls _ (H.holds 990 _ rfl) ((H.rd 900 rfl)) hb) rfl rfl ?_
 rintro _ w ⟨rfl, hm_⟩; refine ⟨_, rfl, ?_⟩; clear F; intro a F; have H := H.same hm_
 refine la F rfl (x_not (F.t 9 rfl)) fun a F => wn (hK3 _ _ ?_)
 refine wp_cond_split (F.t 10 rfl) (fun hc10 => ?_) (fun hc10 => ?_)
 ·have hk10_1 := hc10; try simp only [bL] at hc10
  have hz : rightC c = false := by simpa using hc10
  refine sr fun _ hK4 => la F rfl (x_assign rfl) fun a F => la F rfl (x_assign rfl) fun a F => wn (hK4 _ _ ?_)
  refine wp_ret ?_
  try simp only [Exit.then, Exit.inBlock]
  exact fin_ret F (res2 F rfl rfl rfl) ⟨.slice none 0 0, by rw [encCE_no hz] <;> rfl, H.mods, by rw [encC_no hz]; exact RowOut.nil _ _ _ _⟩
 have hk10_2 := hc10; try simp only [bL] at hc10
 have hr : rightC c = true := by simpa using hc10
 refine wp_skip (hK2 _ _ (sr fun _ hK5 => la F rfl (x_faddr Tryz.underlying66 rfl ty61 (by decide) (F.t 1 rfl) rfl) fun a F => la F rfl (x_load1 ty61 (F.t 11 rfl) (blk_cell (H.at 1 rfl) 0 rfl)) fun a F => la F rfl (x_conv Tryz.underlying5 ⟨_, Tryz.underlying61⟩ (F.t 12 rfl) (wu8 (rightC_kind hr).1 (rightC_kind hr).2)) fun a F => ?_))
 refine lp rfl ?_
 refine w_lit 14 (enc := Value.int .u8) (h1 := fun _ => rfl) ([c.kind]) F H rfl Tryz.underlying27 ty5 (by simp only [bM, F.t 13 rfl]; rfl) rfl (by decide) (by decide) (by kernel_rfl) ?_
 clear F H; intro a w b14 F H
 have H := H.freeze 14 rfl (fun kb => (Value.slice (some ⟨b14, 0, none⟩) ([c.kind]).length ([c.kind]).length).ownBlock = some kb) (fun kb => ⟨fun h => .inr h, fun h => h.resolve_left id⟩)
 refine la F rfl (x_buildS (cells := #[.int .i64 1, .slice (some ⟨b14, 0, none⟩) ([c.kind]).length ([c.kind]).length]) (places := #[(0, 1), (1, 1)]) Tryz.underlying57 ty57 (by kernel_rfl) (by simp only [bM, F.t 14 rfl] <;> rfl) rfl) fun a F => ?_
 refine lp rfl ?_
 refine w_litE 840 FE ([((1, [c.kind]) : Fld)]) #[.int .i64 1, .slice (some ⟨b14, 0, none⟩) ([c.kind]).length ([c.kind]).length] (fun kb => (Value.slice (some ⟨b14, 0, none⟩) ([c.kind]).length ([c.kind]).length).ownBlock = some kb) F H rfl Tryz.underlying60 ty57 (by simp only [bM, F.t 15 rfl] <;> rfl) rfl (by decide) (by decide) (by kernel_rfl) (Elems.single (fld_mk (f := ((1, [c.kind]) : Fld)) ((H.rd 14 rfl)))) (fun kb hk => ⟨14, _, rfl, hk⟩) ?_
 clear F H; intro a w b16 F H
 refine lp rfl ?_
 refine w_alloc 804 F H rfl ty60 ?_
 clear F H; intro a w b4 F H
 refine lp rfl ?_
 refine w_store 804 H ty60 rfl (F.t 4 rfl) (F.t 16 rfl) rfl (one1 rfl rfl) (by first | decide | exact Nat.le_of_ble_eq_true rfl) ?_
 clear H; intro w H
 have H := H.bundle (L := [(804, .blk b4 (.cells #[.slice (some ⟨b16, 0, none⟩) ([((1, [c.kind]) : Fld)]).length ([((1, [c.kind]) : Fld)]).length] 60 (0, 0))), (840, .row FE 57 (.slice (some ⟨b16, 0, none⟩) ([((1, [c.kind]) : Fld)]).length ([((1, [c.kind]) : Fld)]).length) ([((1, [c.kind]) : Fld)]) (fun kb => (Value.slice (some ⟨b14, 0, none⟩) ([c.kind]).length ([c.kind]).length).ownBlock = some kb))]) (N := [(900, .rd_ StE Ac0 c.timer.steps cc0 (fun k => k < w0.heap.size)), (990, .lib pp), (1, .blk b1 (.cells #[.int .i64 c.kind, .string (strOfNums c.key), .string (strOfNums c.value), .string (strOfNums c.timer.name), .int .i64 c.timer.ver, .int .u64 c.timer.tick, .int .u64 c.timer.every, .slice Ac0 c.timer.steps.length cc0] 66 (0, 0))), (14, .rd_ (.int .u8) (some ⟨b14, 0, none⟩) ([c.kind]) ([c.kind]).length (fun kb => (Value.slice (some ⟨b14, 0, none⟩) ([c.kind]).length ([c.kind]).length).ownBlock = some kb))]) 700 (sub_cons (sub_cons (sub_nil _) 840 rfl) 804 rfl) (sub_cons (sub_cons (sub_cons (sub_cons (sub_nil _) 14 rfl) 1 rfl) 990 rfl) 900 rfl) (apart_cons rfl (apart_cons rfl (apart_nil _)))
 have hlen : [((1, [c.kind]) : Fld)].length ≤ 1 := Nat.le_refl _
 refine wn (hK5 _ _ (sr fun _ hK6 => la F rfl (x_mkfunc (vs := #[.pointer (some ⟨b4, 0, none⟩)]) (by simp only [bM, F.t 4 rfl] <;> rfl)) fun a F => la F rfl (x_assign (F.t 17 rfl)) fun a F => wn (hK6 _ _ ?_)))
 refine wp_seq_k fun _ hK7 => ?_
 refine sr fun _ hK8 => la F rfl (x_faddr Tryz.underlying66 rfl ty61 (by decide) (F.t 1 rfl) rfl) fun a F => la F rfl (x_load1 ty61 (F.t 18 rfl) (blk_cell (H.at 1 rfl) 0 rfl)) fun a F => wn (hK8 _ _ (wp_block (sr fun _ hK9 => la F rfl (x_eql (F.t 19 rfl) rfl) fun a F => la F rfl (x_assign (F.t 26 rfl)) fun a F => ?_)))
 refine wn (hK9 _ _ ?_)
 refine wp_cond_split (F.t 25 rfl) (fun hc25 => ?_) (fun hc25 => ?_)
 ·have hk25_3 := hc25; try simp only [bL] at hc25
  refine sr fun _ hK10 => la F rfl (x_faddr Tryz.underlying66 rfl ty64 (by decide) (F.t 1 rfl) rfl) fun a F => la F rfl (x_faddr Tryz.underlying64 rfl ty62 (by decide) (F.t 28 rfl) rfl) fun a F => la F rfl (x_load1 ty62 (F.t 29 rfl) (blk_cell (H.at 1 rfl) 7 rfl)) fun a F => ?_
  refine lp rfl ?_
  refine w_call F (x_enter Tryz.func68 (by kernel_rfl) rfl (by simp only [bM, F.t 30 rfl] <;> rfl)) (aenc_calls _ (H.holds 990 _ rfl) ((H.rd 900 rfl)) hb.timer.steps) rfl rfl ?_
  rintro _ w ⟨vr31, rfl, hm_, hr_⟩; refine ⟨_, rfl, ?_⟩; clear F; intro a F; have H := Hp.rowOut H 31 hm_ hr_; obtain ⟨Ar31, cr31, rfl⟩ := (H.row 31 rfl).form
  refine la F rfl (x_move (F.t 31 rfl)) fun a F => la F rfl (x_extract (F.t 27 rfl) rfl) fun a F => la F rfl (x_extract (F.t 27 rfl) rfl) fun a F => la F rfl (x_assign (F.t 32 rfl)) fun a F => la F rfl (x_assign (F.t 33 rfl)) fun a F => wn (hK10 _ _ (sr fun _ hK11 => la F rfl (x_move (F.t 5 rfl)) fun a F => ?_))
  refine la F rfl (x_faddr Tryz.underlying66 rfl ty64 (by decide) (F.t 1 rfl) rfl) fun a F => la F rfl (x_faddr Tryz.underlying64 rfl ty9 (by decide) (F.t 35 rfl) rfl) fun a F => la F rfl (x_load1 ty9 (F.t 36 rfl) (blk_cell (H.at 1 rfl) 3 rfl)) fun a F => ?_
  refine lp rfl ?_
  refine w_s2b 38 (xs := c.timer.name) F H rfl Tryz.underlying9 Tryz.underlying27 Tryz.underlying5 (F.t 37 rfl) hb.timer.name (by have := rightT_parts (rightC_3 hr hc25); omega) ?_
  clear F H; intro a w b38 c38 hb38_ F H
  refine lp rfl ?_
  refine w_call F (x_enterC (vs := #[.int .i64 4, .slice (some ⟨b38, 0, none⟩) c.timer.name.length c38]) (caps := #[.pointer (some ⟨b4, 0, none⟩)]) (args := #[.int .i64 4, .slice (some ⟨b38, 0, none⟩) c.timer.name.length c38, .pointer (some ⟨b4, 0, none⟩)]) Tryz.func67 (by kernel_rfl) rfl (F.t 34 rfl) (by simp only [bM, F.t 38 rfl] <;> rfl) rfl) (add_calls (bl := b4) (Al := (some ⟨b16, 0, none⟩)) (fs := [((1, [c.kind]) : Fld)]) (cl := ([((1, [c.kind]) : Fld)].length)) (okl := (fun kb => (Value.slice (some ⟨b14, 0, none⟩) ([c.kind]).length ([c.kind]).length).ownBlock = some kb)) _ (it_ok H 700 rfl) (by simp only [lN]; omega) 4 ((H.rd 38 rfl)) (fun k hk => H.inb 38 _ rfl k (.inr hk)) (fun k hk h => H.sep 700 38 _ _ (by decide) rfl rfl k h (.inr hk))) rfl rfl ?_
  rintro _ w ⟨An1, cn1, okn1, rfl, hG_⟩; refine ⟨_, rfl, ?_⟩; clear F; intro a F; have H := H.grew 700 rfl hG_ (fun k hk => ⟨38, _, rfl, hk⟩)
  refine wn (hK11 _ _ (sr fun _ hK12 => la F rfl (x_move (F.t 5 rfl)) fun a F => la F rfl (x_faddr Tryz.underlying66 rfl ty64 (by decide) (F.t 1 rfl) rfl) fun a F => la F rfl (x_faddr Tryz.underlying64 rfl ty3 (by decide) (F.t 41 rfl) rfl) fun a F => la F rfl (x_load1 ty3 (F.t 42 rfl) (blk_cell (H.at 1 rfl) 4 rfl)) fun a F => la F rfl (x_conv Tryz.underlying59 ⟨_, Tryz.underlying3⟩ (F.t 43 rfl) (wu64 (by have := rightT_parts (rightC_3 hr hc25); omega) (by have := rightT_parts (rightC_3 hr hc25); omega))) fun a F => ?_))
  refine lp rfl ?_
  refine w_call F (x_enter Tryz.func28 (by kernel_rfl) rfl (by simp only [bM, F.t 44 rfl] <;> rfl)) (bI_calls _ (by have := rightT_parts (rightC_3 hr hc25); exact ⟨by omega, by omega⟩)) rfl rfl ?_
  rintro _ w ⟨vr45, rfl, hm_, hr_⟩; refine ⟨_, rfl, ?_⟩; clear F; intro a F; have H := Hp.rowOut H 45 hm_ hr_; obtain ⟨Ar45, cr45, rfl⟩ := (H.row 45 rfl).form
  have H := H.freeze 45 rfl (fun kb => (Value.slice Ar45 (bI c.timer.ver).length cr45).ownBlock = some kb) (fun kb => ⟨fun h => .inr h, fun h => h.resolve_left id⟩)
  refine lp rfl ?_
  refine w_call F (x_enterC (vs := #[.int .i64 5, .slice Ar45 (bI c.timer.ver).length cr45]) (caps := #[.pointer (some ⟨b4, 0, none⟩)]) (args := #[.int .i64 5, .slice Ar45 (bI c.timer.ver).length cr45, .pointer (some ⟨b4, 0, none⟩)]) Tryz.func67 (by kernel_rfl) rfl (F.t 40 rfl) (by simp only [bM, F.t 45 rfl] <;> rfl) rfl) (add_calls (bl := b4) (Al := An1) (fs := ([((1, [c.kind]) : Fld)] ++ [((4, c.timer.name) : Fld)])) (cl := cn1) (okl := okn1) _ (it_ok H 700 rfl) (by simp only [lN]; omega) 5 ((H.rd 45 rfl)) (fun k hk => H.inb 45 _ rfl k (.inr hk)) (fun k hk h => H.sep 700 45 _ _ (by decide) rfl rfl k h (.inr hk))) rfl rfl ?_
  rintro _ w ⟨An2, cn2, okn2, rfl, hG_⟩; refine ⟨_, rfl, ?_⟩; clear F; intro a F; have H := H.grew 700 rfl hG_ (fun k hk => ⟨45, _, rfl, hk⟩)
  refine wn (hK12 _ _ (sr fun _ hK13 => la F rfl (x_move (F.t 5 rfl)) fun a F => la F rfl (x_faddr Tryz.underlying66 rfl ty64 (by decide) (F.t 1 rfl) rfl) fun a F => la F rfl (x_faddr Tryz.underlying64 rfl ty59 (by decide) (F.t 48 rfl) rfl) fun a F => la F rfl (x_load1 ty59 (F.t 49 rfl) (blk_cell (H.at 1 rfl) 5 rfl)) fun a F => ?_))
  refine lp rfl ?_
  refine w_call F (x_enter Tryz.func28 (by kernel_rfl) rfl (by simp only [bM, F.t 50 rfl] <;> rfl)) (bI_calls _ hb.timer.tick) rfl rfl ?_
  rintro _ w ⟨vr51, rfl, hm_, hr_⟩; refine ⟨_, rfl, ?_⟩; clear F; intro a F; have H := Hp.rowOut H 51 hm_ hr_; obtain ⟨Ar51, cr51, rfl⟩ := (H.row 51 rfl).form
  have H := H.freeze 51 rfl (fun kb => (Value.slice Ar51 (bI c.timer.tick).length cr51).ownBlock = some kb) (fun kb => ⟨fun h => .inr h, fun h => h.resolve_left id⟩)
  refine lp rfl ?_
  refine w_call F (x_enterC (vs := #[.int .i64 6, .slice Ar51 (bI c.timer.tick).length cr51]) (caps := #[.pointer (some ⟨b4, 0, none⟩)]) (args := #[.int .i64 6, .slice Ar51 (bI c.timer.tick).length cr51, .pointer (some ⟨b4, 0, none⟩)]) Tryz.func67 (by kernel_rfl) rfl (F.t 47 rfl) (by simp only [bM, F.t 51 rfl] <;> rfl) rfl) (add_calls (bl := b4) (Al := An2) (fs := (([((1, [c.kind]) : Fld)] ++ [((4, c.timer.name) : Fld)]) ++ [((5, (bI c.timer.ver)) : Fld)])) (cl := cn2) (okl := okn2) _ (it_ok H 700 rfl) (by simp only [lN]; omega) 6 ((H.rd 51 rfl)) (fun k hk => H.inb 51 _ rfl k (.inr hk)) (fun k hk h => H.sep 700 51 _ _ (by decide) rfl rfl k h (.inr hk))) rfl rfl ?_
  rintro _ w ⟨An3, cn3, okn3, rfl, hG_⟩; refine ⟨_, rfl, ?_⟩; clear F; intro a F; have H := H.grew 700 rfl hG_ (fun k hk => ⟨51, _, rfl, hk⟩)
  refine wn (hK13 _ _ (sr fun _ hK14 => la F rfl (x_move (F.t 5 rfl)) fun a F => la F rfl (x_faddr Tryz.underlying66 rfl ty64 (by decide) (F.t 1 rfl) rfl) fun a F => la F rfl (x_faddr Tryz.underlying64 rfl ty59 (by decide) (F.t 54 rfl) rfl) fun a F => la F rfl (x_load1 ty59 (F.t 55 rfl) (blk_cell (H.at 1 rfl) 6 rfl)) fun a F => ?_))
  refine lp rfl ?_
  refine w_call F (x_enter Tryz.func28 (by kernel_rfl) rfl (by simp only [bM, F.t 56 rfl] <;> rfl)) (bI_calls _ hb.timer.every) rfl rfl ?_
  rintro _ w ⟨vr57, rfl, hm_, hr_⟩; refine ⟨_, rfl, ?_⟩; clear F; intro a F; have H := Hp.rowOut H 57 hm_ hr_; obtain ⟨Ar57, cr57, rfl⟩ := (H.row 57 rfl).form
  have H := H.freeze 57 rfl (fun kb => (Value.slice Ar57 (bI c.timer.every).length cr57).ownBlock = some kb) (fun kb => ⟨fun h => .inr h, fun h => h.resolve_left id⟩)
  refine lp rfl ?_
  refine w_call F (x_enterC (vs := #[.int .i64 7, .slice Ar57 (bI c.timer.every).length cr57]) (caps := #[.pointer (some ⟨b4, 0, none⟩)]) (args := #[.int .i64 7, .slice Ar57 (bI c.timer.every).length cr57, .pointer (some ⟨b4, 0, none⟩)]) Tryz.func67 (by kernel_rfl) rfl (F.t 53 rfl) (by simp only [bM, F.t 57 rfl] <;> rfl) rfl) (add_calls (bl := b4) (Al := An3) (fs := ((([((1, [c.kind]) : Fld)] ++ [((4, c.timer.name) : Fld)]) ++ [((5, (bI c.timer.ver)) : Fld)]) ++ [((6, (bI c.timer.tick)) : Fld)])) (cl := cn3) (okl := okn3) _ (it_ok H 700 rfl) (by simp only [lN]; omega) 7 ((H.rd 57 rfl)) (fun k hk => H.inb 57 _ rfl k (.inr hk)) (fun k hk h => H.sep 700 57 _ _ (by decide) rfl rfl k h (.inr hk))) rfl rfl ?_
  rintro _ w ⟨An4, cn4, okn4, rfl, hG_⟩; refine ⟨_, rfl, ?_⟩; clear F; intro a F; have H := H.grew 700 rfl hG_ (fun k hk => ⟨57, _, rfl, hk⟩)
  refine wn (hK14 _ _ ?_)
  refine wp_region_lit ?_
  refine la F rfl (x_move (F.t 5 rfl)) fun a F => la F rfl (x_move (F.t 6 rfl)) fun a F => ?_
  have H := H.freeze 31 rfl (fun kb => (Value.slice Ar31 (encT c.timer.steps).length cr31).ownBlock = some kb) (fun kb => ⟨fun h => .inr h, fun h => h.resolve_left id⟩)
  refine lp rfl ?_
  refine w_call F (x_enterC (vs := #[.int .i64 8, .slice Ar31 (encT c.timer.steps).length cr31]) (caps := #[.pointer (some ⟨b4, 0, none⟩)]) (args := #[.int .i64 8, .slice Ar31 (encT c.timer.steps).length cr31, .pointer (some ⟨b4, 0, none⟩)]) Tryz.func67 (by kernel_rfl) rfl (F.t 59 rfl) (by simp only [bM, F.t 60 rfl] <;> rfl) rfl) (add_calls (bl := b4) (Al := An4) (fs := (((([((1, [c.kind]) : Fld)] ++ [((4, c.timer.name) : Fld)]) ++ [((5, (bI c.timer.ver)) : Fld)]) ++ [((6, (bI c.timer.tick)) : Fld)]) ++ [((7, (bI c.timer.every)) : Fld)])) (cl := cn4) (okl := okn4) _ (it_ok H 700 rfl) (by simp only [lN]; omega) 8 ((H.rd 31 rfl)) (fun k hk => H.inb 31 _ rfl k (.inr hk)) (fun k hk h => H.sep 700 31 _ _ (by decide) rfl rfl k h (.inr hk))) rfl rfl ?_
  rintro _ w ⟨An5, cn5, okn5, rfl, hG_⟩; refine ⟨_, rfl, ?_⟩; clear F; intro a F; have H := H.grew 700 rfl hG_ (fun k hk => ⟨31, _, rfl, hk⟩)
  refine wn (hK7 _ _ (sr fun _ hK15 => ?_))
  have H := H.unbundle (L := [(804, .blk b4 (.cells #[.slice An5 ((((([((1, [c.kind]) : Fld)] ++ [((4, c.timer.name) : Fld)]) ++ [((5, (bI c.timer.ver)) : Fld)]) ++ [((6, (bI c.timer.tick)) : Fld)]) ++ [((7, (bI c.timer.every)) : Fld)]) ++ [((8, (encT c.timer.steps)) : Fld)]).length cn5] 60 (0, 0))), (840, .row FE 57 (.slice An5 ((((([((1, [c.kind]) : Fld)] ++ [((4, c.timer.name) : Fld)]) ++ [((5, (bI c.timer.ver)) : Fld)]) ++ [((6, (bI c.timer.tick)) : Fld)]) ++ [((7, (bI c.timer.every)) : Fld)]) ++ [((8, (encT c.timer.steps)) : Fld)]).length cn5) ((((([((1, [c.kind]) : Fld)] ++ [((4, c.timer.name) : Fld)]) ++ [((5, (bI c.timer.ver)) : Fld)]) ++ [((6, (bI c.timer.tick)) : Fld)]) ++ [((7, (bI c.timer.every)) : Fld)]) ++ [((8, (encT c.timer.steps)) : Fld)]) okn5)]) (N := [(900, .rd_ StE Ac0 c.timer.steps cc0 (fun k => k < w0.heap.size)), (990, .lib pp), (1, .blk b1 (.cells #[.int .i64 c.kind, .string (strOfNums c.key), .string (strOfNums c.value), .string (strOfNums c.timer.name), .int .i64 c.timer.ver, .int .u64 c.timer.tick, .int .u64 c.timer.every, .slice Ac0 c.timer.steps.length cc0] 66 (0, 0))), (14, .rd_ (.int .u8) (some ⟨b14, 0, none⟩) ([c.kind]) ([c.kind]).length (fun kb => (Value.slice (some ⟨b14, 0, none⟩) ([c.kind]).length ([c.kind]).length).ownBlock = some kb)), (31, .rd_ (.int .u8) Ar31 (encT c.timer.steps) cr31 (fun kb => (Value.slice Ar31 (encT c.timer.steps).length cr31).ownBlock = some kb)), (38, .rd_ (.int .u8) (some ⟨b38, 0, none⟩) c.timer.name c38 (fun kb => kb = b38)), (45, .rd_ (.int .u8) Ar45 (bI c.timer.ver) cr45 (fun kb => (Value.slice Ar45 (bI c.timer.ver).length cr45).ownBlock = some kb)), (51, .rd_ (.int .u8) Ar51 (bI c.timer.tick) cr51 (fun kb => (Value.slice Ar51 (bI c.timer.tick).length cr51).ownBlock = some kb)), (57, .rd_ (.int .u8) Ar57 (bI c.timer.every) cr57 (fun kb => (Value.slice Ar57 (bI c.timer.every).length cr57).ownBlock = some kb))]) 700 rfl (sub_cons (sub_cons (sub_cons (sub_cons (sub_cons (sub_cons (sub_cons (sub_cons (sub_cons (sub_nil _) 57 rfl) 51 rfl) 45 rfl) 38 rfl) 31 rfl) 14 rfl) 1 rfl) 990 rfl) 900 rfl) rfl
  have hfs : ((((([((1, [c.kind]) : Fld)] ++ [((4, c.timer.name) : Fld)]) ++ [((5, (bI c.timer.ver)) : Fld)]) ++ [((6, (bI c.timer.tick)) : Fld)]) ++ [((7, (bI c.timer.every)) : Fld)]) ++ [((8, (encT c.timer.steps)) : Fld)]) = chgF c := by exact chgF_3 hc25
  refine la F rfl (x_load1 ty60 (F.t 4 rfl) (blk_cell (H.at 804 rfl) 0 rfl)) fun a F => ?_
  refine lp rfl ?_
  refine w_call F (x_enter Tryz.func30 (by kernel_rfl) rfl (by simp only [bM, F.t 74 rfl] <;> rfl)) (enc_at (Row.rd (ok' := fun k_ => okn5 k_ ∨ (.slice An5 ((((([((1, [c.kind]) : Fld)] ++ [((4, c.timer.name) : Fld)]) ++ [((5, (bI c.timer.ver)) : Fld)]) ++ [((6, (bI c.timer.tick)) : Fld)]) ++ [((7, (bI c.timer.every)) : Fld)]) ++ [((8, (encT c.timer.steps)) : Fld)]).length cn5 : Value).ownBlock = some k_) (H.row 840 rfl) (fun _ hk_ _ => .inl hk_) (fun _ hk_ => .inr hk_)) (by rw [hfs]; exact encC_encR hr hb)) rfl rfl ?_
  rintro _ w ⟨vr75, rfl, hm_, hr_⟩; refine ⟨_, rfl, ?_⟩; clear F; intro a F; have H := Hp.rowOut H 75 hm_ hr_; obtain ⟨Ar75, cr75, rfl⟩ := (H.row 75 rfl).form
  refine la F rfl (x_extract (F.t 75 rfl) rfl) fun a F => la F rfl (x_extract (F.t 75 rfl) rfl) fun a F => la F rfl (x_assign (F.t 76 rfl)) fun a F => la F rfl (x_assign (F.t 77 rfl)) fun a F => wn (hK15 _ _ ?_)
  refine wp_ret ?_
  try simp only [Exit.then, Exit.inBlock]
  exact fin_ret F (res2 F rfl rfl rfl) ⟨_, by rw [encCE_yes hr] <;> rfl, H.mods, Hp.out H 75 rfl⟩
 have hk25_4 := hc25; try simp only [bL] at hc25
 refine sr fun _ hK16 => la F rfl (x_eql (F.t 19 rfl) rfl) fun a F => la F rfl (x_assign (F.t 63 rfl)) fun a F => wn (hK16 _ _ ?_)
 refine wp_cond_split (F.t 62 rfl) (fun hc62 => ?_) (fun hc62 => ?_)
 ·have hk62_5 := hc62; try simp only [bL] at hc62
  refine sr fun _ hK17 => la F rfl (x_move (F.t 5 rfl)) fun a F => la F rfl (x_faddr Tryz.underlying66 rfl ty9 (by decide) (F.t 1 rfl) rfl) fun a F => la F rfl (x_load1 ty9 (F.t 65 rfl) (blk_cell (H.at 1 rfl) 1 rfl)) fun a F => ?_
  refine lp rfl ?_
  refine w_s2b 67 (xs := c.key) F H rfl Tryz.underlying9 Tryz.underlying27 Tryz.underlying5 (F.t 66 rfl) hb.key (by have := (nameI_parts (rightC_1 hr hc62).1); omega) ?_
  clear F H; intro a w b67 c67 hb67_ F H
  refine lp rfl ?_
  refine w_call F (x_enterC (vs := #[.int .i64 2, .slice (some ⟨b67, 0, none⟩) c.key.length c67]) (caps := #[.pointer (some ⟨b4, 0, none⟩)]) (args := #[.int .i64 2, .slice (some ⟨b67, 0, none⟩) c.key.length c67, .pointer (some ⟨b4, 0, none⟩)]) Tryz.func67 (by kernel_rfl) rfl (F.t 64 rfl) (by simp only [bM, F.t 67 rfl] <;> rfl) rfl) (add_calls (bl := b4) (Al := (some ⟨b16, 0, none⟩)) (fs := [((1, [c.kind]) : Fld)]) (cl := ([((1, [c.kind]) : Fld)].length)) (okl := (fun kb => (Value.slice (some ⟨b14, 0, none⟩) ([c.kind]).length ([c.kind]).length).ownBlock = some kb)) _ (it_ok H 700 rfl) (by simp only [lN]; omega) 2 ((H.rd 67 rfl)) (fun k hk => H.inb 67 _ rfl k (.inr hk)) (fun k hk h => H.sep 700 67 _ _ (by decide) rfl rfl k h (.inr hk))) rfl rfl ?_
  rintro _ w ⟨An1, cn1, okn1, rfl, hG_⟩; refine ⟨_, rfl, ?_⟩; clear F; intro a F; have H := H.grew 700 rfl hG_ (fun k hk => ⟨67, _, rfl, hk⟩)
  refine wn (hK17 _ _ ?_)
  refine wp_region_lit ?_
  refine la F rfl (x_move (F.t 5 rfl)) fun a F => la F rfl (x_faddr Tryz.underlying66 rfl ty9 (by decide) (F.t 1 rfl) rfl) fun a F => la F rfl (x_load1 ty9 (F.t 70 rfl) (blk_cell (H.at 1 rfl) 2 rfl)) fun a F => ?_
  refine lp rfl ?_
  refine w_s2b 72 (xs := c.value) F H rfl Tryz.underlying9 Tryz.underlying27 Tryz.underlying5 (F.t 71 rfl) hb.value (by have := (rightC_1 hr hc62).2; omega) ?_
  clear F H; intro a w b72 c72 hb72_ F H
  refine lp rfl ?_
  refine w_call F (x_enterC (vs := #[.int .i64 3, .slice (some ⟨b72, 0, none⟩) c.value.length c72]) (caps := #[.pointer (some ⟨b4, 0, none⟩)]) (args := #[.int .i64 3, .slice (some ⟨b72, 0, none⟩) c.value.length c72, .pointer (some ⟨b4, 0, none⟩)]) Tryz.func67 (by kernel_rfl) rfl (F.t 69 rfl) (by simp only [bM, F.t 72 rfl] <;> rfl) rfl) (add_calls (bl := b4) (Al := An1) (fs := ([((1, [c.kind]) : Fld)] ++ [((2, c.key) : Fld)])) (cl := cn1) (okl := okn1) _ (it_ok H 700 rfl) (by simp only [lN]; omega) 3 ((H.rd 72 rfl)) (fun k hk => H.inb 72 _ rfl k (.inr hk)) (fun k hk h => H.sep 700 72 _ _ (by decide) rfl rfl k h (.inr hk))) rfl rfl ?_
  rintro _ w ⟨An2, cn2, okn2, rfl, hG_⟩; refine ⟨_, rfl, ?_⟩; clear F; intro a F; have H := H.grew 700 rfl hG_ (fun k hk => ⟨72, _, rfl, hk⟩)
  refine wn (hK7 _ _ (sr fun _ hK18 => ?_))
  have H := H.unbundle (L := [(804, .blk b4 (.cells #[.slice An2 (([((1, [c.kind]) : Fld)] ++ [((2, c.key) : Fld)]) ++ [((3, c.value) : Fld)]).length cn2] 60 (0, 0))), (840, .row FE 57 (.slice An2 (([((1, [c.kind]) : Fld)] ++ [((2, c.key) : Fld)]) ++ [((3, c.value) : Fld)]).length cn2) (([((1, [c.kind]) : Fld)] ++ [((2, c.key) : Fld)]) ++ [((3, c.value) : Fld)]) okn2)]) (N := [(900, .rd_ StE Ac0 c.timer.steps cc0 (fun k => k < w0.heap.size)), (990, .lib pp), (1, .blk b1 (.cells #[.int .i64 c.kind, .string (strOfNums c.key), .string (strOfNums c.value), .string (strOfNums c.timer.name), .int .i64 c.timer.ver, .int .u64 c.timer.tick, .int .u64 c.timer.every, .slice Ac0 c.timer.steps.length cc0] 66 (0, 0))), (14, .rd_ (.int .u8) (some ⟨b14, 0, none⟩) ([c.kind]) ([c.kind]).length (fun kb => (Value.slice (some ⟨b14, 0, none⟩) ([c.kind]).length ([c.kind]).length).ownBlock = some kb)), (67, .rd_ (.int .u8) (some ⟨b67, 0, none⟩) c.key c67 (fun kb => kb = b67)), (72, .rd_ (.int .u8) (some ⟨b72, 0, none⟩) c.value c72 (fun kb => kb = b72))]) 700 rfl (sub_cons (sub_cons (sub_cons (sub_cons (sub_cons (sub_cons (sub_nil _) 72 rfl) 67 rfl) 14 rfl) 1 rfl) 990 rfl) 900 rfl) rfl
  have hfs : (([((1, [c.kind]) : Fld)] ++ [((2, c.key) : Fld)]) ++ [((3, c.value) : Fld)]) = chgF c := by exact chgF_1 hc62
  refine la F rfl (x_load1 ty60 (F.t 4 rfl) (blk_cell (H.at 804 rfl) 0 rfl)) fun a F => ?_
  refine lp rfl ?_
  refine w_call F (x_enter Tryz.func30 (by kernel_rfl) rfl (by simp only [bM, F.t 74 rfl] <;> rfl)) (enc_at (Row.rd (ok' := fun k_ => okn2 k_ ∨ (.slice An2 (([((1, [c.kind]) : Fld)] ++ [((2, c.key) : Fld)]) ++ [((3, c.value) : Fld)]).length cn2 : Value).ownBlock = some k_) (H.row 840 rfl) (fun _ hk_ _ => .inl hk_) (fun _ hk_ => .inr hk_)) (by rw [hfs]; exact encC_encR hr hb)) rfl rfl ?_
  rintro _ w ⟨vr75, rfl, hm_, hr_⟩; refine ⟨_, rfl, ?_⟩; clear F; intro a F; have H := Hp.rowOut H 75 hm_ hr_; obtain ⟨Ar75, cr75, rfl⟩ := (H.row 75 rfl).form
  refine la F rfl (x_extract (F.t 75 rfl) rfl) fun a F => la F rfl (x_extract (F.t 75 rfl) rfl) fun a F => la F rfl (x_assign (F.t 76 rfl)) fun a F => la F rfl (x_assign (F.t 77 rfl)) fun a F => wn (hK18 _ _ ?_)
  refine wp_ret ?_
  try simp only [Exit.then, Exit.inBlock]
  exact fin_ret F (res2 F rfl rfl rfl) ⟨_, by rw [encCE_yes hr] <;> rfl, H.mods, Hp.out H 75 rfl⟩
 have hk62_6 := hc62; try simp only [bL] at hc62
 refine wp_region_lit ?_
 refine la F rfl (x_move (F.t 5 rfl)) fun a F => la F rfl (x_faddr Tryz.underlying66 rfl ty9 (by decide) (F.t 1 rfl) rfl) fun a F => la F rfl (x_load1 ty9 (F.t 21 rfl) (blk_cell (H.at 1 rfl) 1 rfl)) fun a F => ?_
 refine lp rfl ?_
 refine w_s2b 23 (xs := c.key) F H rfl Tryz.underlying9 Tryz.underlying27 Tryz.underlying5 (F.t 22 rfl) hb.key (by have := nameI_parts (rightC_2 hr hc25 hc62); omega) ?_
 clear F H; intro a w b23 c23 hb23_ F H
 refine lp rfl ?_
 refine w_call F (x_enterC (vs := #[.int .i64 2, .slice (some ⟨b23, 0, none⟩) c.key.length c23]) (caps := #[.pointer (some ⟨b4, 0, none⟩)]) (args := #[.int .i64 2, .slice (some ⟨b23, 0, none⟩) c.key.length c23, .pointer (some ⟨b4, 0, none⟩)]) Tryz.func67 (by kernel_rfl) rfl (F.t 20 rfl) (by simp only [bM, F.t 23 rfl] <;> rfl) rfl) (add_calls (bl := b4) (Al := (some ⟨b16, 0, none⟩)) (fs := [((1, [c.kind]) : Fld)]) (cl := ([((1, [c.kind]) : Fld)].length)) (okl := (fun kb => (Value.slice (some ⟨b14, 0, none⟩) ([c.kind]).length ([c.kind]).length).ownBlock = some kb)) _ (it_ok H 700 rfl) (by simp only [lN]; omega) 2 ((H.rd 23 rfl)) (fun k hk => H.inb 23 _ rfl k (.inr hk)) (fun k hk h => H.sep 700 23 _ _ (by decide) rfl rfl k h (.inr hk))) rfl rfl ?_
 rintro _ w ⟨An1, cn1, okn1, rfl, hG_⟩; refine ⟨_, rfl, ?_⟩; clear F; intro a F; have H := H.grew 700 rfl hG_ (fun k hk => ⟨23, _, rfl, hk⟩)
 refine wn (hK7 _ _ (sr fun _ hK19 => ?_))
 have H := H.unbundle (L := [(804, .blk b4 (.cells #[.slice An1 ([((1, [c.kind]) : Fld)] ++ [((2, c.key) : Fld)]).length cn1] 60 (0, 0))), (840, .row FE 57 (.slice An1 ([((1, [c.kind]) : Fld)] ++ [((2, c.key) : Fld)]).length cn1) ([((1, [c.kind]) : Fld)] ++ [((2, c.key) : Fld)]) okn1)]) (N := [(900, .rd_ StE Ac0 c.timer.steps cc0 (fun k => k < w0.heap.size)), (990, .lib pp), (1, .blk b1 (.cells #[.int .i64 c.kind, .string (strOfNums c.key), .string (strOfNums c.value), .string (strOfNums c.timer.name), .int .i64 c.timer.ver, .int .u64 c.timer.tick, .int .u64 c.timer.every, .slice Ac0 c.timer.steps.length cc0] 66 (0, 0))), (14, .rd_ (.int .u8) (some ⟨b14, 0, none⟩) ([c.kind]) ([c.kind]).length (fun kb => (Value.slice (some ⟨b14, 0, none⟩) ([c.kind]).length ([c.kind]).length).ownBlock = some kb)), (23, .rd_ (.int .u8) (some ⟨b23, 0, none⟩) c.key c23 (fun kb => kb = b23))]) 700 rfl (sub_cons (sub_cons (sub_cons (sub_cons (sub_cons (sub_nil _) 23 rfl) 14 rfl) 1 rfl) 990 rfl) 900 rfl) rfl
 have hfs : ([((1, [c.kind]) : Fld)] ++ [((2, c.key) : Fld)]) = chgF c := by exact chgF_2 hc25 hc62
 refine la F rfl (x_load1 ty60 (F.t 4 rfl) (blk_cell (H.at 804 rfl) 0 rfl)) fun a F => ?_
 refine lp rfl ?_
 refine w_call F (x_enter Tryz.func30 (by kernel_rfl) rfl (by simp only [bM, F.t 74 rfl] <;> rfl)) (enc_at (Row.rd (ok' := fun k_ => okn1 k_ ∨ (.slice An1 ([((1, [c.kind]) : Fld)] ++ [((2, c.key) : Fld)]).length cn1 : Value).ownBlock = some k_) (H.row 840 rfl) (fun _ hk_ _ => .inl hk_) (fun _ hk_ => .inr hk_)) (by rw [hfs]; exact encC_encR hr hb)) rfl rfl ?_
 rintro _ w ⟨vr75, rfl, hm_, hr_⟩; refine ⟨_, rfl, ?_⟩; clear F; intro a F; have H := Hp.rowOut H 75 hm_ hr_; obtain ⟨Ar75, cr75, rfl⟩ := (H.row 75 rfl).form
 refine la F rfl (x_extract (F.t 75 rfl) rfl) fun a F => la F rfl (x_extract (F.t 75 rfl) rfl) fun a F => la F rfl (x_assign (F.t 76 rfl)) fun a F => la F rfl (x_assign (F.t 77 rfl)) fun a F => wn (hK19 _ _ ?_)
 refine wp_ret ?_
 try simp only [Exit.then, Exit.inBlock]
 exact fin_ret F (res2 F rfl rfl rfl) ⟨_, by rw [encCE_yes hr] <;> rfl, H.mods, Hp.out H 75 rfl⟩
end Go.Proofs.YtiiklnghnifmjaaGreatDoor.Act
