/- The document's changes, walked: which are right, their bytes. -/
import Derived.Test.YtiiklnghnifmjaaGreatDoorRefAZc
import Derived.Test.YtiiklnghnifmjaaGreatDoorDecAZc
import Derived.Test.YtiiklnghnifmjaaGreatDoorCrcRZc
import Derived.Test.YtiiklnghnifmjaaGreatDoorRdcDZc
import Derived.Test.YtiiklnghnifmjaaGreatDoorRefDZc
set_option linter.unusedVariables false
set_option linter.unusedSimpArgs false
namespace Go.Proofs.YtiiklnghnifmjaaGreatDoor.Act
open Go.RowKit Go.Proofs.YtiiklnghnifmjaaGreatDoor.Sx Go.Proofs.YtiiklnghnifmjaaGreatDoor.Cod Go.Proofs.YtiiklnghnifmjaaGreatDoor.Num
def riC (c : ChangeD) : Bool :=
  if c.kind = 1 then nameI c.key && (decide (c.value.length ≤ 60) && decide (c.timer = zT))
  else if c.kind = 2 ∨ c.kind = 4 then nameI c.key && (decide (c.value.length = 0) && decide (c.timer = zT))
  else if c.kind = 3 then decide (c.key.length = 0) && (decide (c.value.length = 0) && rightT c.timer)
  else false
theorem rightC_ref (c : ChangeD) : rightC c = riC c := by
  unfold rightC riC
  rw [bareT_z]
  split
  · cases nameI c.key <;> cases decide (c.timer = zT) <;> simp
  · split
    · cases nameI c.key <;> cases decide (c.timer = zT) <;> simp
    · split
      · rw [Bool.and_assoc]
      · rfl
end Go.Proofs.YtiiklnghnifmjaaGreatDoor.Act
set_option linter.unusedVariables false
set_option maxRecDepth 100000
set_option maxHeartbeats 1000000
set_option linter.unusedSimpArgs false
namespace Go.Proofs.YtiiklnghnifmjaaGreatDoor.Act
open Go.RowKit Go.Proofs.YtiiklnghnifmjaaGreatDoor.Sx Go.Proofs.YtiiklnghnifmjaaGreatDoor.Cod Go.Proofs.YtiiklnghnifmjaaGreatDoor.Num
theorem none_calls (w0 : World) {t : TimerD} {okt0 : Nat → Prop} {At0 : Option Addr} {ct0 : Nat} (hrt0 : Rd StE w0 okt0 At0 t.steps ct0) (hb : TimerB t) : Calls Tryz.prog 86 #[.agg #[.string (strOfNums t.name), .int .i64 t.ver, .int .u64 t.tick, .int .u64 t.every, .slice At0 t.steps.length ct0]] w0 fun e w' => e = .returned (.bool (decide (t = zT))) ∧ Mods (fun _ => False) w0 w' := by
 refine cow Tryz.func86 rfl Tryz.ntmps86 (Nat.le_of_ble_eq_true rfl) fun a F => ?_
 have H := Hp.nil (fun _ => False) w0
 have H := H.arg 900 hrt0.all (fun _ h => ⟨h, fun h => h⟩)
 have hlet0 := hrt0.le; unfold maxLen at hlet0
 refine sr fun _ hK1 => ?_
 refine lp rfl ?_
 refine w_box 1 F H rfl (F.t 0 rfl) ?_
 clear F H; intro a w b1 F H
 refine la F rfl (x_assign rfl) fun a F => wn (hK1 _ _ (sr fun _ hK2 => la F rfl (x_loadn ty64 (F.t 1 rfl) rfl (blk_whole (H.at 1 rfl))) fun a F => la F rfl (x_buildS (cells := #[.string (strOfNums []), .int .i64 0, .int .u64 0, .int .u64 0, .slice none 0 0]) (places := #[(0, 1), (1, 1), (2, 1), (3, 1), (4, 1)]) Tryz.underlying64 ty64 (by kernel_rfl) Array.map_empty rfl) fun a F => ?_))
 refine lp rfl ?_
 refine w_call F (x_enter Tryz.func89 (by kernel_rfl) rfl (by simp only [bM, F.t 3 rfl, F.t 4 rfl] <;> rfl)) (r10same_calls (p := t) (q := zT) _ ((H.rd 900 rfl)) (Rd.nil StE _ (fun _ => False)) hb zT_B) rfl rfl ?_
 rintro _ w ⟨rfl, hm_⟩; refine ⟨_, rfl, ?_⟩; clear F; intro a F; have H := H.same hm_
 refine la F rfl (x_assign (F.t 5 rfl)) fun a F => wn (hK2 _ _ ?_)
 refine wp_ret ?_
 try simp only [Exit.then, Exit.inBlock]
 exact fin_ret F (res1 F rfl rfl) ⟨rfl, H.mods⟩
theorem r12right_calls (w0 : World) {c : ChangeD} {okc0 : Nat → Prop} {Ac0 : Option Addr} {cc0 : Nat} (hrc0 : Rd StE w0 okc0 Ac0 c.timer.steps cc0) (hb : ChangeB c) : Calls Tryz.prog 51 #[.agg #[.int .i64 c.kind, .string (strOfNums c.key), .string (strOfNums c.value), .string (strOfNums c.timer.name), .int .i64 c.timer.ver, .int .u64 c.timer.tick, .int .u64 c.timer.every, .slice Ac0 c.timer.steps.length cc0]] w0 fun e w' => e = .returned (.bool (rightC c)) ∧ Mods (fun _ => False) w0 w' := by
 refine cow Tryz.func51 rfl Tryz.ntmps51 (Nat.le_of_ble_eq_true rfl) fun a F => ?_
 have H := Hp.nil (fun _ => False) w0
 have H := H.arg 900 hrc0.all (fun _ h => ⟨h, fun h => h⟩)
 have hlec0 := hrc0.le; unfold maxLen at hlec0
 refine sr fun _ hK1 => ?_
 refine lp rfl ?_
 refine w_box 1 F H rfl (F.t 0 rfl) ?_
 clear F H; intro a w b1 F H
 refine la F rfl (x_assign rfl) fun a F => wn (hK1 _ _ (sr fun _ hK2 => la F rfl (x_faddr Tryz.underlying66 rfl ty9 (by decide) (F.t 1 rfl) rfl) fun a F => la F rfl (x_load1 ty9 (F.t 5 rfl) (blk_cell (H.at 1 rfl) 1 rfl)) fun a F => ?_))
 refine lp rfl ?_
 refine w_call F (x_enter Tryz.func85 (by kernel_rfl) rfl (by simp only [bM, F.t 6 rfl] <;> rfl)) (rname_calls _ c.key) rfl rfl ?_
 rintro _ w ⟨rfl, hm_⟩; refine ⟨_, rfl, ?_⟩; clear F; intro a F; have H := H.same hm_
 refine la F rfl (x_assign (F.t 7 rfl)) fun a F => wn (hK2 _ _ (sr fun _ hK3 => la F rfl (x_faddr Tryz.underlying66 rfl ty64 (by decide) (F.t 1 rfl) rfl) fun a F => la F rfl (x_loadn (cs := #[.string (strOfNums c.timer.name), .int .i64 c.timer.ver, .int .u64 c.timer.tick, .int .u64 c.timer.every, .slice Ac0 c.timer.steps.length cc0]) ty64 (F.t 8 rfl) rfl (blk_sub (H.at 1 rfl) 3 5 rfl)) fun a F => ?_))
 refine lp rfl ?_
 refine w_call F (x_enter Tryz.func86 (by kernel_rfl) rfl (by simp only [bM, F.t 9 rfl] <;> rfl)) (none_calls (t := c.timer) _ ((H.rd 900 rfl)) hb.timer) rfl rfl ?_
 rintro _ w ⟨rfl, hm_⟩; refine ⟨_, rfl, ?_⟩; clear F; intro a F; have H := H.same hm_
 refine la F rfl (x_assign (F.t 10 rfl)) fun a F => wn (hK3 _ _ ?_)
 refine wp_seq_k fun _ hK4 => ?_
 refine sr fun _ hK5 => la F rfl (x_faddr Tryz.underlying66 rfl ty61 (by decide) (F.t 1 rfl) rfl) fun a F => la F rfl (x_load1 ty61 (F.t 11 rfl) (blk_cell (H.at 1 rfl) 0 rfl)) fun a F => wn (hK5 _ _ (wp_block (sr fun _ hK6 => la F rfl (x_eql (F.t 12 rfl) rfl) fun a F => la F rfl (x_assign (F.t 14 rfl)) fun a F => ?_)))
 refine wn (hK6 _ _ ?_)
 refine wp_cond_split (F.t 13 rfl) (fun hc13 => ?_) (fun hc13 => ?_)
 ·have hk13_1 := hc13; try simp only [bL] at hc13
  refine sr fun _ hK7 => la F rfl (x_move (F.t 3 rfl)) fun a F => la F rfl (x_move (F.t 15 rfl)) fun a F => ?_
  refine split_bool F 16 rfl (fun hb16 => ?_) (fun hb16 => ?_)
  ·have hc16 := hb16; try simp only [bL] at hc16
   refine lgs F hb16 rfl (x_faddr Tryz.underlying66 rfl ty9 (by decide) (F.t 1 rfl) rfl) fun a F => lgs F hb16 rfl (x_load1 ty9 (F.t 17 rfl) (blk_cell (H.at 1 rfl) 2 rfl)) fun a F => lgs F hb16 rfl (x_len_sn (xs := c.value) Tryz.underlying9 (F.t 18 rfl)) fun a F => lgs F hb16 rfl (x_leq (F.t 19 rfl) rfl) fun a F => la F rfl (x_pickT (F.t 16 rfl) hb16 (F.t 20 rfl)) fun a F => la F rfl (x_move (F.t 21 rfl)) fun a F => ?_
   refine split_bool F 22 rfl (fun hb22 => ?_) (fun hb22 => ?_)
   ·have hc22 := hb22; try simp only [bL] at hc22
    refine lgs F hb22 rfl (x_move (F.t 4 rfl)) fun a F => la F rfl (x_pickT (F.t 22 rfl) hb22 (F.t 23 rfl)) fun a F => la F rfl (x_assign (F.t 24 rfl)) fun a F => wn (hK7 _ _ ?_)
    refine wp_ret ?_
    try simp only [Exit.then, Exit.inBlock]
    have hv : (decide (c.timer = zT)) = rightC c := by rw [rightC_ref]; unfold riC; first | (simp [hc13, hc16, hc22]; done) | (simp [hc13, hc16, hc22]; omega)
    exact fin_ret F (res1 (v := .bool (decide (c.timer = zT))) F rfl rfl) ⟨by rw [hv], H.mods⟩
   have hc22 := hb22; try simp only [bL] at hc22
   refine los F hb22 rfl fun a F => la F rfl (x_pickF (F.t 22 rfl) hb22 rfl) fun a F => la F rfl (x_assign (F.t 24 rfl)) fun a F => wn (hK7 _ _ ?_)
   refine wp_ret ?_
   try simp only [Exit.then, Exit.inBlock]
   have hv : false = rightC c := by rw [rightC_ref]; unfold riC; first | (simp [hc13, hc16, hc22]; done) | (simp [hc13, hc16, hc22]; omega)
   exact fin_ret F (res1 (v := .bool false) F rfl rfl) ⟨by rw [hv], H.mods⟩
  have hc16 := hb16; try simp only [bL] at hc16
  refine los F hb16 rfl fun a F => los F hb16 rfl fun a F => los F hb16 rfl fun a F => los F hb16 rfl fun a F => la F rfl (x_pickF (F.t 16 rfl) hb16 rfl) fun a F => la F rfl (x_move (F.t 21 rfl)) fun a F => lo F rfl fun a F => la F rfl (x_pickF (F.t 22 rfl) rfl rfl) fun a F => ?_
  refine la F rfl (x_assign (F.t 24 rfl)) fun a F => wn (hK7 _ _ ?_)
  refine wp_ret ?_
  try simp only [Exit.then, Exit.inBlock]
  have hv : false = rightC c := by rw [rightC_ref]; unfold riC; first | (simp [hc13, hc16]; done) | (simp [hc13, hc16]; omega)
  exact fin_ret F (res1 (v := .bool false) F rfl rfl) ⟨by rw [hv], H.mods⟩
 have hk13_2 := hc13; try simp only [bL] at hc13
 refine wp_seq_k fun _ hK8 => ?_
 refine sr fun _ hK9 => la F rfl (x_eql (F.t 12 rfl) rfl) fun a F => la F rfl (x_assign (F.t 26 rfl)) fun a F => wn (hK9 _ _ ?_)
 refine wp_cond_split (F.t 25 rfl) (fun hc25 => ?_) (fun hc25 => ?_)
 ·have hk25_3 := hc25; try simp only [bL] at hc25
  refine wp_skip (hK8 _ _ ?_)
  refine wp_cond_true ((F.t 25 rfl).trans (by rw [hk25_3])) ?_
  refine sr fun _ hK10 => la F rfl (x_move (F.t 3 rfl)) fun a F => la F rfl (x_move (F.t 28 rfl)) fun a F => ?_
  refine split_bool F 29 rfl (fun hb29 => ?_) (fun hb29 => ?_)
  ·have hc29 := hb29; try simp only [bL] at hc29
   refine lgs F hb29 rfl (x_faddr Tryz.underlying66 rfl ty9 (by decide) (F.t 1 rfl) rfl) fun a F => lgs F hb29 rfl (x_load1 ty9 (F.t 30 rfl) (blk_cell (H.at 1 rfl) 2 rfl)) fun a F => lgs F hb29 rfl (x_eqn0 (xs := c.value) (F.t 31 rfl) (show _ = Value.string (strOfNums ([] : List Int)) by kernel_rfl)) fun a F => la F rfl (x_pickT (F.t 29 rfl) hb29 (F.t 32 rfl)) fun a F => la F rfl (x_move (F.t 33 rfl)) fun a F => ?_
   refine split_bool F 34 rfl (fun hb34 => ?_) (fun hb34 => ?_)
   ·have hc34 := hb34; try simp only [bL] at hc34
    refine lgs F hb34 rfl (x_move (F.t 4 rfl)) fun a F => la F rfl (x_pickT (F.t 34 rfl) hb34 (F.t 35 rfl)) fun a F => la F rfl (x_assign (F.t 36 rfl)) fun a F => wn (hK10 _ _ ?_)
    refine wp_ret ?_
    try simp only [Exit.then, Exit.inBlock]
    have hv : (decide (c.timer = zT)) = rightC c := by rw [rightC_ref]; unfold riC; first | (simp [hc13, hc25, hc29, hc34]; done) | (simp [hc13, hc25, hc29, hc34]; omega)
    exact fin_ret F (res1 (v := .bool (decide (c.timer = zT))) F rfl rfl) ⟨by rw [hv], H.mods⟩
   have hc34 := hb34; try simp only [bL] at hc34
   refine los F hb34 rfl fun a F => la F rfl (x_pickF (F.t 34 rfl) hb34 rfl) fun a F => la F rfl (x_assign (F.t 36 rfl)) fun a F => wn (hK10 _ _ ?_)
   refine wp_ret ?_
   try simp only [Exit.then, Exit.inBlock]
   have hv : false = rightC c := by rw [rightC_ref]; unfold riC; first | (simp [hc13, hc25, hc29, hc34]; done) | (simp [hc13, hc25, hc29, hc34]; omega)
   exact fin_ret F (res1 (v := .bool false) F rfl rfl) ⟨by rw [hv], H.mods⟩
  have hc29 := hb29; try simp only [bL] at hc29
  refine los F hb29 rfl fun a F => los F hb29 rfl fun a F => los F hb29 rfl fun a F => la F rfl (x_pickF (F.t 29 rfl) hb29 rfl) fun a F => la F rfl (x_move (F.t 33 rfl)) fun a F => lo F rfl fun a F => la F rfl (x_pickF (F.t 34 rfl) rfl rfl) fun a F => la F rfl (x_assign (F.t 36 rfl)) fun a F => ?_
  refine wn (hK10 _ _ ?_)
  refine wp_ret ?_
  try simp only [Exit.then, Exit.inBlock]
  have hv : false = rightC c := by rw [rightC_ref]; unfold riC; first | (simp [hc13, hc25, hc29]; done) | (simp [hc13, hc25, hc29]; omega)
  exact fin_ret F (res1 (v := .bool false) F rfl rfl) ⟨by rw [hv], H.mods⟩
 have hk25_4 := hc25; try simp only [bL] at hc25
 refine wp_region_lit ?_
 refine la F rfl (x_eql (F.t 12 rfl) rfl) fun a F => la F rfl (x_assign (F.t 27 rfl)) fun a F => wn (hK8 _ _ ?_)
 refine wp_cond_split (F.t 25 rfl) (fun hc25 => ?_) (fun hc25 => ?_)
 ·have hk25_5 := hc25; try simp only [bL] at hc25
  refine sr fun _ hK11 => la F rfl (x_move (F.t 3 rfl)) fun a F => la F rfl (x_move (F.t 28 rfl)) fun a F => ?_
  refine split_bool F 29 rfl (fun hb29 => ?_) (fun hb29 => ?_)
  ·have hc29 := hb29; try simp only [bL] at hc29
   refine lgs F hb29 rfl (x_faddr Tryz.underlying66 rfl ty9 (by decide) (F.t 1 rfl) rfl) fun a F => lgs F hb29 rfl (x_load1 ty9 (F.t 30 rfl) (blk_cell (H.at 1 rfl) 2 rfl)) fun a F => lgs F hb29 rfl (x_eqn0 (xs := c.value) (F.t 31 rfl) (show _ = Value.string (strOfNums ([] : List Int)) by kernel_rfl)) fun a F => la F rfl (x_pickT (F.t 29 rfl) hb29 (F.t 32 rfl)) fun a F => la F rfl (x_move (F.t 33 rfl)) fun a F => ?_
   refine split_bool F 34 rfl (fun hb34 => ?_) (fun hb34 => ?_)
   ·have hc34 := hb34; try simp only [bL] at hc34
    refine lgs F hb34 rfl (x_move (F.t 4 rfl)) fun a F => la F rfl (x_pickT (F.t 34 rfl) hb34 (F.t 35 rfl)) fun a F => la F rfl (x_assign (F.t 36 rfl)) fun a F => wn (hK11 _ _ ?_)
    refine wp_ret ?_
    try simp only [Exit.then, Exit.inBlock]
    have hv : (decide (c.timer = zT)) = rightC c := by rw [rightC_ref]; unfold riC; first | (simp [hc13, hc25, hc25, hc29, hc34]; done) | (simp [hc13, hc25, hc25, hc29, hc34]; omega)
    exact fin_ret F (res1 (v := .bool (decide (c.timer = zT))) F rfl rfl) ⟨by rw [hv], H.mods⟩
   have hc34 := hb34; try simp only [bL] at hc34
   refine los F hb34 rfl fun a F => la F rfl (x_pickF (F.t 34 rfl) hb34 rfl) fun a F => la F rfl (x_assign (F.t 36 rfl)) fun a F => wn (hK11 _ _ ?_)
   refine wp_ret ?_
   try simp only [Exit.then, Exit.inBlock]
   have hv : false = rightC c := by rw [rightC_ref]; unfold riC; first | (simp [hc13, hc25, hc25, hc29, hc34]; done) | (simp [hc13, hc25, hc25, hc29, hc34]; omega)
   exact fin_ret F (res1 (v := .bool false) F rfl rfl) ⟨by rw [hv], H.mods⟩
  have hc29 := hb29; try simp only [bL] at hc29
  refine los F hb29 rfl fun a F => los F hb29 rfl fun a F => los F hb29 rfl fun a F => la F rfl (x_pickF (F.t 29 rfl) hb29 rfl) fun a F => la F rfl (x_move (F.t 33 rfl)) fun a F => lo F rfl fun a F => la F rfl (x_pickF (F.t 34 rfl) rfl rfl) fun a F => la F rfl (x_assign (F.t 36 rfl)) fun a F => ?_
  refine wn (hK11 _ _ ?_)
  refine wp_ret ?_
  try simp only [Exit.then, Exit.inBlock]
  have hv : false = rightC c := by rw [rightC_ref]; unfold riC; first | (simp [hc13, hc25, hc25, hc29]; done) | (simp [hc13, hc25, hc25, hc29]; omega)
  exact fin_ret F (res1 (v := .bool false) F rfl rfl) ⟨by rw [hv], H.mods⟩
 have hk25_6 := hc25; try simp only [bL] at hc25
 refine sr fun _ hK12 => la F rfl (x_eql (F.t 12 rfl) rfl) fun a F => la F rfl (x_assign (F.t 38 rfl)) fun a F => wn (hK12 _ _ ?_)
 refine wp_cond_split (F.t 37 rfl) (fun hc37 => ?_) (fun hc37 => ?_)
 ·have hk37_7 := hc37; try simp only [bL] at hc37
  refine sr fun _ hK13 => la F rfl (x_faddr Tryz.underlying66 rfl ty9 (by decide) (F.t 1 rfl) rfl) fun a F => la F rfl (x_load1 ty9 (F.t 39 rfl) (blk_cell (H.at 1 rfl) 1 rfl)) fun a F => la F rfl (x_eqn0 (xs := c.key) (F.t 40 rfl) (show _ = Value.string (strOfNums ([] : List Int)) by kernel_rfl)) fun a F => la F rfl (x_move (F.t 41 rfl)) fun a F => ?_
  refine split_bool F 42 rfl (fun hb42 => ?_) (fun hb42 => ?_)
  ·have hc42 := hb42; try simp only [bL] at hc42
   refine lgs F hb42 rfl (x_faddr Tryz.underlying66 rfl ty9 (by decide) (F.t 1 rfl) rfl) fun a F => lgs F hb42 rfl (x_load1 ty9 (F.t 43 rfl) (blk_cell (H.at 1 rfl) 2 rfl)) fun a F => lgs F hb42 rfl (x_eqn0 (xs := c.value) (F.t 44 rfl) (show _ = Value.string (strOfNums ([] : List Int)) by kernel_rfl)) fun a F => la F rfl (x_pickT (F.t 42 rfl) hb42 (F.t 45 rfl)) fun a F => la F rfl (x_move (F.t 46 rfl)) fun a F => ?_
   refine split_bool F 47 rfl (fun hb47 => ?_) (fun hb47 => ?_)
   ·have hc47 := hb47; try simp only [bL] at hc47
    refine lgs F hb47 rfl (x_faddr Tryz.underlying66 rfl ty64 (by decide) (F.t 1 rfl) rfl) fun a F => lgs F hb47 rfl (x_loadn (cs := #[.string (strOfNums c.timer.name), .int .i64 c.timer.ver, .int .u64 c.timer.tick, .int .u64 c.timer.every, .slice Ac0 c.timer.steps.length cc0]) ty64 (F.t 48 rfl) rfl (blk_sub (H.at 1 rfl) 3 5 rfl)) fun a F => ?_
    refine lpo ((wo F rfl).trans (by rw [hb47]; rfl)) ?_
    refine w_call F (x_enter Tryz.func87 (by kernel_rfl) rfl (by simp only [bM, F.t 49 rfl] <;> rfl)) (r10right_calls (t := c.timer) _ ((H.rd 900 rfl)) hb.timer) rfl rfl ?_
    rintro _ w ⟨rfl, hm_⟩; refine ⟨_, rfl, ?_⟩; clear F; intro a F; have H := H.same hm_
    refine la F rfl (x_pickT (F.t 47 rfl) hb47 (F.t 50 rfl)) fun a F => la F rfl (x_assign (F.t 51 rfl)) fun a F => wn (hK13 _ _ ?_)
    refine wp_ret ?_
    try simp only [Exit.then, Exit.inBlock]
    have hv : (rightT c.timer) = rightC c := by rw [rightC_ref]; unfold riC; first | (simp [hc13, hc25, hc25, hc37, hc42, hc47]; done) | (simp [hc13, hc25, hc25, hc37, hc42, hc47]; omega)
    exact fin_ret F (res1 (v := .bool (rightT c.timer)) F rfl rfl) ⟨by rw [hv], H.mods⟩
   have hc47 := hb47; try simp only [bL] at hc47
   refine los F hb47 rfl fun a F => los F hb47 rfl fun a F => los F hb47 rfl fun a F => la F rfl (x_pickF (F.t 47 rfl) hb47 rfl) fun a F => la F rfl (x_assign (F.t 51 rfl)) fun a F => wn (hK13 _ _ ?_)
   refine wp_ret ?_
   try simp only [Exit.then, Exit.inBlock]
   have hv : false = rightC c := by rw [rightC_ref]; unfold riC; first | (simp [hc13, hc25, hc25, hc37, hc42, hc47]; done) | (simp [hc13, hc25, hc25, hc37, hc42, hc47]; omega)
   exact fin_ret F (res1 (v := .bool false) F rfl rfl) ⟨by rw [hv], H.mods⟩
  have hc42 := hb42; try simp only [bL] at hc42
  refine los F hb42 rfl fun a F => los F hb42 rfl fun a F => los F hb42 rfl fun a F => la F rfl (x_pickF (F.t 42 rfl) hb42 rfl) fun a F => la F rfl (x_move (F.t 46 rfl)) fun a F => lo F rfl fun a F => lo F rfl fun a F => lo F rfl fun a F => ?_
  refine la F rfl (x_pickF (F.t 47 rfl) rfl rfl) fun a F => la F rfl (x_assign (F.t 51 rfl)) fun a F => wn (hK13 _ _ ?_)
  refine wp_ret ?_
  try simp only [Exit.then, Exit.inBlock]
  have hv : false = rightC c := by rw [rightC_ref]; unfold riC; first | (simp [hc13, hc25, hc25, hc37, hc42]; done) | (simp [hc13, hc25, hc25, hc37, hc42]; omega)
  exact fin_ret F (res1 (v := .bool false) F rfl rfl) ⟨by rw [hv], H.mods⟩
 have hk37_8 := hc37; try simp only [bL] at hc37
 refine wp_skip (hK4 _ _ (sr fun _ hK14 => la F rfl (x_assign rfl) fun a F => wn (hK14 _ _ ?_)))
 refine wp_ret ?_
 try simp only [Exit.then, Exit.inBlock]
 have hv : false = rightC c := by rw [rightC_ref]; unfold riC; first | (simp [hc13, hc25, hc25, hc37]; done) | (simp [hc13, hc25, hc25, hc37]; omega)
 exact fin_ret F (res1 (v := .bool false) F rfl rfl) ⟨by rw [hv], H.mods⟩
theorem rbI_calls (w0 : World) {n : Int} (h : 0 ≤ n ∧ n < 18446744073709551616) : Calls Tryz.prog 32 #[.int .u64 n] w0 fun e w' => ∃ v, e = .returned v ∧ Mods (fun _ => False) w0 w' ∧ RowOut (.int .u8) 5 w0 w' v (bI n) := by
 obtain ⟨k, rfl⟩ : ∃ k : Nat, n = (k : Int) := ⟨n.toNat, by omega⟩
 exact refBytes_calls w0 k (by omega)
theorem rencC_calls (w0 : World) {c : ChangeD} {okc0 : Nat → Prop} {Ac0 : Option Addr} {cc0 : Nat} (hrc0 : Rd StE w0 okc0 Ac0 c.timer.steps cc0) (hb : ChangeB c) : Calls Tryz.prog 33 #[.agg #[.int .i64 c.kind, .string (strOfNums c.key), .string (strOfNums c.value), .string (strOfNums c.timer.name), .int .i64 c.timer.ver, .int .u64 c.timer.tick, .int .u64 c.timer.every, .slice Ac0 c.timer.steps.length cc0]] w0 fun e w' => ∃ v, e = .returned (.tuple #[v, .int .i64 (encCE c)]) ∧ Mods (fun _ => False) w0 w' ∧ RowOut (.int .u8) 5 w0 w' v (encC c) := by
 refine cow Tryz.func33 rfl Tryz.ntmps33 (Nat.le_of_ble_eq_true rfl) fun a F => ?_
 have H := Hp.nil (fun _ => False) w0
 have H := H.arg 900 hrc0.all (fun _ h => ⟨h, fun h => h⟩)
 have hlec0 := hrc0.le; unfold maxLen at hlec0
 refine sr fun _ hK1 => ?_
 refine lp rfl ?_
 refine w_box 1 F H rfl (F.t 0 rfl) ?_
 clear F H; intro a w b1 F H
 refine la F rfl (x_assign rfl) fun a F => la F rfl (x_assign rfl) fun a F => wn (hK1 _ _ (sr fun _ hK2 => la F rfl (x_loadn ty66 (F.t 1 rfl) rfl (blk_whole (H.at 1 rfl))) fun a F => ?_))
 refine lp rfl ?_
 refine w_call F (x_enter Tryz.func51 (by kernel_rfl) rfl (by simp only [bM, F.t 11 rfl] <;> rfl)) (r12right_calls (c := c) _ ((H.rd 900 rfl)) hb) rfl rfl ?_
 rintro _ w ⟨rfl, hm_⟩; refine ⟨_, rfl, ?_⟩; clear F; intro a F; have H := H.same hm_
 refine la F rfl (x_assign (F.t 12 rfl)) fun a F => wn (hK2 _ _ ?_)
 refine wp_seq_k fun _ hK3 => ?_
 refine sr fun _ hK4 => la F rfl (x_move (F.t 4 rfl)) fun a F => la F rfl (x_not (F.t 13 rfl)) fun a F => wn (hK4 _ _ ?_)
 refine wp_cond_split (F.t 14 rfl) (fun hc14 => ?_) (fun hc14 => ?_)
 ·have hk14_1 := hc14; try simp only [bL] at hc14
  have hz : rightC c = false := by simpa using hc14
  refine sr fun _ hK5 => la F rfl (x_assign rfl) fun a F => la F rfl (x_assign rfl) fun a F => wn (hK5 _ _ ?_)
  refine wp_ret ?_
  try simp only [Exit.then, Exit.inBlock]
  exact fin_ret F (res2 F rfl rfl rfl) ⟨.slice none 0 0, by rw [encCE_no hz] <;> rfl, H.mods, by rw [encC_no hz]; exact RowOut.nil _ _ _ _⟩
 have hk14_2 := hc14; try simp only [bL] at hc14
 have hr : rightC c = true := by simpa using hc14
 refine wp_skip (hK3 _ _ (sr fun _ hK6 => la F rfl (x_faddr Tryz.underlying66 rfl ty61 (by decide) (F.t 1 rfl) rfl) fun a F => la F rfl (x_load1 ty61 (F.t 15 rfl) (blk_cell (H.at 1 rfl) 0 rfl)) fun a F => la F rfl (x_conv Tryz.underlying5 ⟨_, Tryz.underlying61⟩ (F.t 16 rfl) (wu8 (rightC_kind hr).1 (rightC_kind hr).2)) fun a F => ?_))
 refine lp rfl ?_
 refine w_lit 18 (enc := Value.int .u8) (h1 := fun _ => rfl) ([c.kind]) F H rfl Tryz.underlying27 ty5 (by simp only [bM, F.t 17 rfl]; rfl) rfl (by decide) (by decide) (by kernel_rfl) ?_
 clear F H; intro a w b18 F H
 have H := H.freeze 18 rfl (fun kb => (Value.slice (some ⟨b18, 0, none⟩) ([c.kind]).length ([c.kind]).length).ownBlock = some kb) (fun kb => ⟨fun h => .inr h, fun h => h.resolve_left id⟩)
 refine la F rfl (x_buildS (cells := #[.int .i64 1, .slice (some ⟨b18, 0, none⟩) ([c.kind]).length ([c.kind]).length]) (places := #[(0, 1), (1, 1)]) Tryz.underlying57 ty57 (by kernel_rfl) (by simp only [bM, F.t 18 rfl] <;> rfl) rfl) fun a F => ?_
 refine lp rfl ?_
 refine w_litE 20 FE ([((1, [c.kind]) : Fld)]) #[.int .i64 1, .slice (some ⟨b18, 0, none⟩) ([c.kind]).length ([c.kind]).length] (fun kb => (Value.slice (some ⟨b18, 0, none⟩) ([c.kind]).length ([c.kind]).length).ownBlock = some kb) F H rfl Tryz.underlying60 ty57 (by simp only [bM, F.t 19 rfl] <;> rfl) rfl (by decide) (by decide) (by kernel_rfl) (Elems.single (fld_mk (f := ((1, [c.kind]) : Fld)) ((H.rd 18 rfl)))) (fun kb hk => ⟨18, _, rfl, hk⟩) ?_
 clear F H; intro a w b20 F H
 refine la F rfl (x_assign (F.t 20 rfl)) fun a F => wn (hK6 _ _ ?_)
 refine wp_seq_k fun _ hK7 => ?_
 refine sr fun _ hK8 => la F rfl (x_faddr Tryz.underlying66 rfl ty61 (by decide) (F.t 1 rfl) rfl) fun a F => la F rfl (x_load1 ty61 (F.t 21 rfl) (blk_cell (H.at 1 rfl) 0 rfl)) fun a F => la F rfl (x_neq (F.t 22 rfl) rfl) fun a F => wn (hK8 _ _ ?_)
 refine wp_cond_split (F.t 23 rfl) (fun hc23 => ?_) (fun hc23 => ?_)
 ·have hk23_3 := hc23; try simp only [bL] at hc23
  have hk3 : ¬ c.kind = 3 := by omega
  refine wp_region_lit ?_
  refine la F rfl (x_move (F.t 5 rfl)) fun a F => la F rfl (x_faddr Tryz.underlying66 rfl ty9 (by decide) (F.t 1 rfl) rfl) fun a F => la F rfl (x_load1 ty9 (F.t 25 rfl) (blk_cell (H.at 1 rfl) 1 rfl)) fun a F => ?_
  refine lp rfl ?_
  refine w_s2b 27 (xs := c.key) F H rfl Tryz.underlying9 Tryz.underlying27 Tryz.underlying5 (F.t 26 rfl) hb.key (by have := nameI_parts (rightC_n hr hk3); omega) ?_
  clear F H; intro a w b27 c27 hb27_ F H
  refine la F rfl (x_buildS (cells := #[.int .i64 2, .slice (some ⟨b27, 0, none⟩) c.key.length c27]) (places := #[(0, 1), (1, 1)]) Tryz.underlying57 ty57 (by kernel_rfl) (by simp only [bM, F.t 27 rfl] <;> rfl) rfl) fun a F => ?_
  refine lp rfl ?_
  refine w_lit1 29 FE ((2, c.key) : Fld) #[.int .i64 2, .slice (some ⟨b27, 0, none⟩) c.key.length c27] (fun kb => kb = b27) F H rfl Tryz.underlying60 ty57 (by simp only [bM, F.t 28 rfl] <;> rfl) (by decide) (by kernel_rfl) (fld_mk (f := ((2, c.key) : Fld)) ((H.rd 27 rfl))) (fun kb hk => ⟨27, _, rfl, hk⟩) ?_
  clear F H; intro a w b29 F hb29_ H
  refine lp rfl ?_
  refine w_append 20 29 (xs := ([((1, [c.kind]) : Fld)])) (ys := ([((2, c.key) : Fld)])) F H rfl Tryz.underlying60 ty57 rfl rfl rfl rfl ((H.rd 29 rfl)) oI (F.t 24 rfl) (F.t 29 rfl) (by simp only [lN] at *; omega) (by simp only [lN, maxLen] at *; omega) (fun kb => (fun kb => (Value.slice (some ⟨b18, 0, none⟩) ([c.kind]).length ([c.kind]).length).ownBlock = some kb) kb ∨ (fun kb => (fun kb => kb = b27) kb ∨ kb = b29) kb) (fun w' v' h => h) (by rintro k_ (hk_ | hk_); exact .inl hk_; exact .inr hk_) ?_
  clear F H; intro a w v30 F H
  refine la F rfl (x_assign (F.t 30 rfl)) fun a F => wn (hK7 _ _ ?_)
  refine wp_seq_k fun _ hK9 => ?_
  refine sr fun _ hK10 => la F rfl (x_faddr Tryz.underlying66 rfl ty61 (by decide) (F.t 1 rfl) rfl) fun a F => la F rfl (x_load1 ty61 (F.t 31 rfl) (blk_cell (H.at 1 rfl) 0 rfl)) fun a F => la F rfl (x_eql (F.t 32 rfl) rfl) fun a F => wn (hK10 _ _ ?_)
  refine wp_cond_split (F.t 33 rfl) (fun hc33 => ?_) (fun hc33 => ?_)
  ·have hk33_4 := hc33; try simp only [bL] at hc33
   refine wp_region_lit ?_
   refine la F rfl (x_move (F.t 5 rfl)) fun a F => la F rfl (x_faddr Tryz.underlying66 rfl ty9 (by decide) (F.t 1 rfl) rfl) fun a F => la F rfl (x_load1 ty9 (F.t 35 rfl) (blk_cell (H.at 1 rfl) 2 rfl)) fun a F => ?_
   refine lp rfl ?_
   refine w_s2b 37 (xs := c.value) F H rfl Tryz.underlying9 Tryz.underlying27 Tryz.underlying5 (F.t 36 rfl) hb.value (by have := (rightC_1 hr hc33).2; omega) ?_
   clear F H; intro a w b37 c37 hb37_ F H
   refine la F rfl (x_buildS (cells := #[.int .i64 3, .slice (some ⟨b37, 0, none⟩) c.value.length c37]) (places := #[(0, 1), (1, 1)]) Tryz.underlying57 ty57 (by kernel_rfl) (by simp only [bM, F.t 37 rfl] <;> rfl) rfl) fun a F => ?_
   refine lp rfl ?_
   refine w_lit1 39 FE ((3, c.value) : Fld) #[.int .i64 3, .slice (some ⟨b37, 0, none⟩) c.value.length c37] (fun kb => kb = b37) F H rfl Tryz.underlying60 ty57 (by simp only [bM, F.t 38 rfl] <;> rfl) (by decide) (by kernel_rfl) (fld_mk (f := ((3, c.value) : Fld)) ((H.rd 37 rfl))) (fun kb hk => ⟨37, _, rfl, hk⟩) ?_
   clear F H; intro a w b39 F hb39_ H
   refine lp rfl ?_
   refine w_append 20 39 (xs := (([((1, [c.kind]) : Fld)]) ++ [((2, c.key) : Fld)])) (ys := ([((3, c.value) : Fld)])) F H rfl Tryz.underlying60 ty57 rfl rfl rfl rfl ((H.rd 39 rfl)) oI (F.t 34 rfl) (F.t 39 rfl) (by simp only [lN] at *; omega) (by simp only [lN, maxLen] at *; omega) (fun kb => (fun kb => (fun kb => (Value.slice (some ⟨b18, 0, none⟩) ([c.kind]).length ([c.kind]).length).ownBlock = some kb) kb ∨ (fun kb => (fun kb => kb = b27) kb ∨ kb = b29) kb) kb ∨ (fun kb => (fun kb => kb = b37) kb ∨ kb = b39) kb) (fun w' v' h => h) (by rintro k_ (hk_ | hk_); exact .inl hk_; exact .inr hk_) ?_
   clear F H; intro a w v40 F H
   refine la F rfl (x_assign (F.t 40 rfl)) fun a F => wn (hK9 _ _ ?_)
   refine wp_seq_k fun _ hK11 => ?_
   refine sr fun _ hK12 => la F rfl (x_faddr Tryz.underlying66 rfl ty61 (by decide) (F.t 1 rfl) rfl) fun a F => la F rfl (x_load1 ty61 (F.t 41 rfl) (blk_cell (H.at 1 rfl) 0 rfl)) fun a F => la F rfl (x_eql (F.t 42 rfl) rfl) fun a F => wn (hK12 _ _ ?_)
   refine wp_cond_false ((F.t 43 rfl).trans (by rw [(by simpa using hk23_3 : (decide (c.kind = 3)) = false)])) ?_
   refine wp_skip (hK11 _ _ (sr fun _ hK13 => ?_))
   rw [chgF_1 hc33] at H
   obtain ⟨Av, cv, rfl⟩ := (H.row 20 rfl).form
   refine la F rfl (x_move (F.t 5 rfl)) fun a F => ?_
   refine lp rfl ?_
   refine w_call F (x_enter Tryz.func34 (by kernel_rfl) rfl (by simp only [bM, F.t 75 rfl] <;> rfl)) (refEnc_at (Row.rd (ok' := fun k_ => (fun kb => (fun kb => (fun kb => (Value.slice (some ⟨b18, 0, none⟩) ([c.kind]).length ([c.kind]).length).ownBlock = some kb) kb ∨ (fun kb => (fun kb => kb = b27) kb ∨ kb = b29) kb) kb ∨ (fun kb => (fun kb => kb = b37) kb ∨ kb = b39) kb) k_ ∨ (.slice Av (chgF c).length cv : Value).ownBlock = some k_) (H.row 20 rfl) (fun _ hk_ _ => .inl hk_) (fun _ hk_ => .inr hk_)) (encC_encR hr hb)) rfl rfl ?_
   rintro _ w ⟨vr76, er76, rfl, hm_, hr_⟩; refine ⟨_, rfl, ?_⟩; clear F; intro a F; have H := Hp.rowOut H 76 hm_ hr_; obtain ⟨Ar76, cr76, rfl⟩ := (H.row 76 rfl).form
   refine la F rfl (x_move (F.t 76 rfl)) fun a F => la F rfl (x_extract (F.t 74 rfl) rfl) fun a F => la F rfl (x_extract (F.t 74 rfl) rfl) fun a F => la F rfl (x_assign (F.t 77 rfl)) fun a F => la F rfl (x_assign (F.t 78 rfl)) fun a F => wn (hK13 _ _ (sr fun _ hK14 => la F rfl (x_move (F.t 9 rfl)) fun a F => ?_))
   refine la F rfl (x_assign (F.t 79 rfl)) fun a F => la F rfl (x_assign rfl) fun a F => wn (hK14 _ _ ?_)
   refine wp_ret ?_
   try simp only [Exit.then, Exit.inBlock]
   exact fin_ret F (res2 F rfl rfl rfl) ⟨_, by rw [encCE_yes hr] <;> rfl, H.mods, Hp.out H 76 rfl⟩
  have hk33_5 := hc33; try simp only [bL] at hc33
  refine wp_skip (hK9 _ _ ?_)
  refine wp_seq_k fun _ hK15 => ?_
  refine sr fun _ hK16 => la F rfl (x_faddr Tryz.underlying66 rfl ty61 (by decide) (F.t 1 rfl) rfl) fun a F => la F rfl (x_load1 ty61 (F.t 41 rfl) (blk_cell (H.at 1 rfl) 0 rfl)) fun a F => la F rfl (x_eql (F.t 42 rfl) rfl) fun a F => wn (hK16 _ _ ?_)
  refine wp_cond_false ((F.t 43 rfl).trans (by rw [(by simpa using hk23_3 : (decide (c.kind = 3)) = false)])) ?_
  refine wp_skip (hK15 _ _ (sr fun _ hK17 => ?_))
  rw [chgF_2 hk3 hc33] at H
  obtain ⟨Av, cv, rfl⟩ := (H.row 20 rfl).form
  refine la F rfl (x_move (F.t 5 rfl)) fun a F => ?_
  refine lp rfl ?_
  refine w_call F (x_enter Tryz.func34 (by kernel_rfl) rfl (by simp only [bM, F.t 75 rfl] <;> rfl)) (refEnc_at (Row.rd (ok' := fun k_ => (fun kb => (fun kb => (Value.slice (some ⟨b18, 0, none⟩) ([c.kind]).length ([c.kind]).length).ownBlock = some kb) kb ∨ (fun kb => (fun kb => kb = b27) kb ∨ kb = b29) kb) k_ ∨ (.slice Av (chgF c).length cv : Value).ownBlock = some k_) (H.row 20 rfl) (fun _ hk_ _ => .inl hk_) (fun _ hk_ => .inr hk_)) (encC_encR hr hb)) rfl rfl ?_
  rintro _ w ⟨vr76, er76, rfl, hm_, hr_⟩; refine ⟨_, rfl, ?_⟩; clear F; intro a F; have H := Hp.rowOut H 76 hm_ hr_; obtain ⟨Ar76, cr76, rfl⟩ := (H.row 76 rfl).form
  refine la F rfl (x_move (F.t 76 rfl)) fun a F => la F rfl (x_extract (F.t 74 rfl) rfl) fun a F => la F rfl (x_extract (F.t 74 rfl) rfl) fun a F => la F rfl (x_assign (F.t 77 rfl)) fun a F => la F rfl (x_assign (F.t 78 rfl)) fun a F => wn (hK17 _ _ (sr fun _ hK18 => la F rfl (x_move (F.t 9 rfl)) fun a F => ?_))
  refine la F rfl (x_assign (F.t 79 rfl)) fun a F => la F rfl (x_assign rfl) fun a F => wn (hK18 _ _ ?_)
  refine wp_ret ?_
  try simp only [Exit.then, Exit.inBlock]
  exact fin_ret F (res2 F rfl rfl rfl) ⟨_, by rw [encCE_yes hr] <;> rfl, H.mods, Hp.out H 76 rfl⟩
 have hk23_6 := hc23; try simp only [bL] at hc23
 have hk3 : c.kind = 3 := by omega
 refine wp_skip (hK7 _ _ ?_)
 refine wp_seq_k fun _ hK19 => ?_
 refine sr fun _ hK20 => la F rfl (x_faddr Tryz.underlying66 rfl ty61 (by decide) (F.t 1 rfl) rfl) fun a F => la F rfl (x_load1 ty61 (F.t 31 rfl) (blk_cell (H.at 1 rfl) 0 rfl)) fun a F => la F rfl (x_eql (F.t 32 rfl) rfl) fun a F => wn (hK20 _ _ ?_)
 refine wp_cond_split (F.t 33 rfl) (fun hc33 => ?_) (fun hc33 => ?_)
 ·have hk33_7 := hc33; try simp only [bL] at hc33
  exact absurd hc33 (by omega)
 have hk33_8 := hc33; try simp only [bL] at hc33
 refine wp_skip (hK19 _ _ ?_)
 refine wp_seq_k fun khK21 hK21 => ?_
 refine sr fun _ hK22 => la F rfl (x_faddr Tryz.underlying66 rfl ty61 (by decide) (F.t 1 rfl) rfl) fun a F => la F rfl (x_load1 ty61 (F.t 41 rfl) (blk_cell (H.at 1 rfl) 0 rfl)) fun a F => la F rfl (x_eql (F.t 42 rfl) rfl) fun a F => wn (hK22 _ _ ?_)
 refine wp_cond_true ((F.t 43 rfl).trans (by rw [(by simpa using hk23_6 : (decide (c.kind = 3)) = true)])) ?_
 refine sr fun _ hK23 => la F rfl (x_faddr Tryz.underlying66 rfl ty64 (by decide) (F.t 1 rfl) rfl) fun a F => la F rfl (x_loadn (cs := #[.string (strOfNums c.timer.name), .int .i64 c.timer.ver, .int .u64 c.timer.tick, .int .u64 c.timer.every, .slice Ac0 c.timer.steps.length cc0]) ty64 (F.t 44 rfl) rfl (blk_sub (H.at 1 rfl) 3 5 rfl)) fun a F => ?_
 refine lp rfl ?_
 refine w_alloc 6 F H rfl ty64 ?_
 clear F H; intro a w b6 F H
 refine lp rfl ?_
 refine w_storeA 6 H ty64 rfl (F.t 6 rfl) (F.t 45 rfl) rfl (by simp [Value.cells, Value.oneCell']) rfl ?_
 clear H; intro w H
 refine wn (hK23 _ _ (sr fun _ hK24 => la F rfl (x_faddr Tryz.underlying64 rfl ty62 (by decide) (F.t 6 rfl) rfl) fun a F => la F rfl (x_load1 ty62 (F.t 47 rfl) (blk_cell (H.at 6 rfl) 4 rfl)) fun a F => ?_))
 refine lp rfl ?_
 refine w_call F (x_enter Tryz.func70 (by kernel_rfl) rfl (by simp only [bM, F.t 48 rfl] <;> rfl)) (raenc_calls (xs := c.timer.steps) _ ((H.rd 900 rfl)) hb.timer.steps) rfl rfl ?_
 rintro _ w ⟨vr49, rfl, hm_, hr_⟩; refine ⟨_, rfl, ?_⟩; clear F; intro a F; have H := Hp.rowOut H 49 hm_ hr_; obtain ⟨Ar49, cr49, rfl⟩ := (H.row 49 rfl).form
 refine la F rfl (x_move (F.t 49 rfl)) fun a F => la F rfl (x_extract (F.t 46 rfl) rfl) fun a F => la F rfl (x_extract (F.t 46 rfl) rfl) fun a F => la F rfl (x_assign (F.t 50 rfl)) fun a F => ?_
 have H := H.freeze 49 rfl (fun kb => (Value.slice Ar49 (encT c.timer.steps).length cr49).ownBlock = some kb) (fun kb => ⟨fun h => .inr h, fun h => h.resolve_left id⟩)
 refine la F rfl (x_assign (F.t 51 rfl)) fun a F => wn (hK24 _ _ ?_)
 have hJr12 : ∀ a w, ∀ Ar60 : Option Addr, ∀ Ar64 : Option Addr, ∀ Ar68 : Option Addr, ∀ b55 : Nat, ∀ b72 : Nat, ∀ c55 : Nat, ∀ cr60 : Nat, ∀ cr64 : Nat, ∀ cr68 : Nat, ∀ v73 : Value, Fr 80 a [(5, v73)] → Hp (fun _ => False) w0 w [(900, .rd_ StE Ac0 c.timer.steps cc0 (fun k => k < w0.heap.size)), (1, .blk b1 (.cells #[.int .i64 c.kind, .string (strOfNums c.key), .string (strOfNums c.value), .string (strOfNums c.timer.name), .int .i64 c.timer.ver, .int .u64 c.timer.tick, .int .u64 c.timer.every, .slice Ac0 c.timer.steps.length cc0] 66 (0, 0))), (18, .rd_ (.int .u8) (some ⟨b18, 0, none⟩) ([c.kind]) ([c.kind]).length (fun kb => (Value.slice (some ⟨b18, 0, none⟩) ([c.kind]).length ([c.kind]).length).ownBlock = some kb)), (20, .row FE 57 v73 (([((1, [c.kind]) : Fld)]) ++ ([((4, c.timer.name) : Fld), ((5, (bI c.timer.ver)) : Fld), ((6, (bI c.timer.tick)) : Fld), ((7, (bI c.timer.every)) : Fld), ((8, (encT c.timer.steps)) : Fld)])) (fun kb => (fun kb => (Value.slice (some ⟨b18, 0, none⟩) ([c.kind]).length ([c.kind]).length).ownBlock = some kb) kb ∨ (fun kb => (fun kb => (fun kb => kb = b55) kb ∨ (fun kb => (Value.slice Ar60 (bI c.timer.ver).length cr60).ownBlock = some kb) kb ∨ (fun kb => (Value.slice Ar64 (bI c.timer.tick).length cr64).ownBlock = some kb) kb ∨ (fun kb => (Value.slice Ar68 (bI c.timer.every).length cr68).ownBlock = some kb) kb ∨ (fun kb => (Value.slice Ar49 (encT c.timer.steps).length cr49).ownBlock = some kb) kb) kb ∨ (Value.slice (some ⟨b72, 0, none⟩) ([((4, c.timer.name) : Fld), ((5, (bI c.timer.ver)) : Fld), ((6, (bI c.timer.tick)) : Fld), ((7, (bI c.timer.every)) : Fld), ((8, (encT c.timer.steps)) : Fld)]).length ([((4, c.timer.name) : Fld), ((5, (bI c.timer.ver)) : Fld), ((6, (bI c.timer.tick)) : Fld), ((7, (bI c.timer.every)) : Fld), ((8, (encT c.timer.steps)) : Fld)]).length).ownBlock = some kb) kb)), (6, .blk b6 (.cells #[.string (strOfNums c.timer.name), .int .i64 c.timer.ver, .int .u64 c.timer.tick, .int .u64 c.timer.every, .slice Ac0 c.timer.steps.length cc0] 64 (0, 0))), (49, .rd_ (.int .u8) Ar49 (encT c.timer.steps) cr49 (fun kb => (Value.slice Ar49 (encT c.timer.steps).length cr49).ownBlock = some kb)), (55, .rd_ (.int .u8) (some ⟨b55, 0, none⟩) c.timer.name c55 (fun kb => kb = b55)), (60, .rd_ (.int .u8) Ar60 (bI c.timer.ver) cr60 (fun kb => (Value.slice Ar60 (bI c.timer.ver).length cr60).ownBlock = some kb)), (64, .rd_ (.int .u8) Ar64 (bI c.timer.tick) cr64 (fun kb => (Value.slice Ar64 (bI c.timer.tick).length cr64).ownBlock = some kb)), (68, .rd_ (.int .u8) Ar68 (bI c.timer.every) cr68 (fun kb => (Value.slice Ar68 (bI c.timer.every).length cr68).ownBlock = some kb)), (72, .rd_ FE (some ⟨b72, 0, none⟩) ([((4, c.timer.name) : Fld), ((5, (bI c.timer.ver)) : Fld), ((6, (bI c.timer.tick)) : Fld), ((7, (bI c.timer.every)) : Fld), ((8, (encT c.timer.steps)) : Fld)]) ([((4, c.timer.name) : Fld), ((5, (bI c.timer.ver)) : Fld), ((6, (bI c.timer.tick)) : Fld), ((7, (bI c.timer.every)) : Fld), ((8, (encT c.timer.steps)) : Fld)]).length (fun kb => (fun kb => (fun kb => kb = b55) kb ∨ (fun kb => (Value.slice Ar60 (bI c.timer.ver).length cr60).ownBlock = some kb) kb ∨ (fun kb => (Value.slice Ar64 (bI c.timer.tick).length cr64).ownBlock = some kb) kb ∨ (fun kb => (Value.slice Ar68 (bI c.timer.every).length cr68).ownBlock = some kb) kb ∨ (fun kb => (Value.slice Ar49 (encT c.timer.steps).length cr49).ownBlock = some kb) kb) kb ∨ (Value.slice (some ⟨b72, 0, none⟩) ([((4, c.timer.name) : Fld), ((5, (bI c.timer.ver)) : Fld), ((6, (bI c.timer.tick)) : Fld), ((7, (bI c.timer.every)) : Fld), ((8, (encT c.timer.steps)) : Fld)]).length ([((4, c.timer.name) : Fld), ((5, (bI c.timer.ver)) : Fld), ((6, (bI c.timer.tick)) : Fld), ((7, (bI c.timer.every)) : Fld), ((8, (encT c.timer.steps)) : Fld)]).length).ownBlock = some kb))] → khK21 a w := by
  intro a w Ar60 Ar64 Ar68 b55 b72 c55 cr60 cr64 cr68 v73 F H
  refine hK21 a w ?_
  refine sr fun _ hK25 => ?_
  rw [chgF_3b hk3] at H
  obtain ⟨Av, cv, rfl⟩ := (H.row 20 rfl).form
  refine la F rfl (x_move (F.t 5 rfl)) fun a F => ?_
  refine lp rfl ?_
  refine w_call F (x_enter Tryz.func34 (by kernel_rfl) rfl (by simp only [bM, F.t 75 rfl] <;> rfl)) (refEnc_at (Row.rd (ok' := fun k_ => (fun kb => (fun kb => (Value.slice (some ⟨b18, 0, none⟩) ([c.kind]).length ([c.kind]).length).ownBlock = some kb) kb ∨ (fun kb => (fun kb => (fun kb => kb = b55) kb ∨ (fun kb => (Value.slice Ar60 (bI c.timer.ver).length cr60).ownBlock = some kb) kb ∨ (fun kb => (Value.slice Ar64 (bI c.timer.tick).length cr64).ownBlock = some kb) kb ∨ (fun kb => (Value.slice Ar68 (bI c.timer.every).length cr68).ownBlock = some kb) kb ∨ (fun kb => (Value.slice Ar49 (encT c.timer.steps).length cr49).ownBlock = some kb) kb) kb ∨ (Value.slice (some ⟨b72, 0, none⟩) ([((4, c.timer.name) : Fld), ((5, (bI c.timer.ver)) : Fld), ((6, (bI c.timer.tick)) : Fld), ((7, (bI c.timer.every)) : Fld), ((8, (encT c.timer.steps)) : Fld)]).length ([((4, c.timer.name) : Fld), ((5, (bI c.timer.ver)) : Fld), ((6, (bI c.timer.tick)) : Fld), ((7, (bI c.timer.every)) : Fld), ((8, (encT c.timer.steps)) : Fld)]).length).ownBlock = some kb) kb) k_ ∨ (.slice Av (chgF c).length cv : Value).ownBlock = some k_) (H.row 20 rfl) (fun _ hk_ _ => .inl hk_) (fun _ hk_ => .inr hk_)) (encC_encR hr hb)) rfl rfl ?_
  rintro _ w ⟨vr76, er76, rfl, hm_, hr_⟩; refine ⟨_, rfl, ?_⟩; clear F; intro a F; have H := Hp.rowOut H 76 hm_ hr_; obtain ⟨Ar76, cr76, rfl⟩ := (H.row 76 rfl).form
  refine la F rfl (x_move (F.t 76 rfl)) fun a F => la F rfl (x_extract (F.t 74 rfl) rfl) fun a F => la F rfl (x_extract (F.t 74 rfl) rfl) fun a F => la F rfl (x_assign (F.t 77 rfl)) fun a F => la F rfl (x_assign (F.t 78 rfl)) fun a F => wn (hK25 _ _ (sr fun _ hK26 => la F rfl (x_move (F.t 9 rfl)) fun a F => ?_))
  refine la F rfl (x_assign (F.t 79 rfl)) fun a F => la F rfl (x_assign rfl) fun a F => wn (hK26 _ _ ?_)
  refine wp_ret ?_
  try simp only [Exit.then, Exit.inBlock]
  exact fin_ret F (res2 F rfl rfl rfl) ⟨_, by rw [encCE_yes hr] <;> rfl, H.mods, Hp.out H 76 rfl⟩
 refine r_start [(6, .blk b6 (.cells #[.string (strOfNums c.timer.name), .int .i64 c.timer.ver, .int .u64 c.timer.tick, .int .u64 c.timer.every, .slice Ac0 c.timer.steps.length cc0] 64 (0, 0)))] (by kernel_rfl) H fun H => ?_
 have hS : SL [(6, .blk b6 (.cells #[.string (strOfNums c.timer.name), .int .i64 c.timer.ver, .int .u64 c.timer.tick, .int .u64 c.timer.every, .slice Ac0 c.timer.steps.length cc0] 64 (0, 0)))] _ := SL.of H (sub_cons (sub_nil _) 6 rfl)
 refine rT 0 F rfl (by kernel_rfl) pq rfl hS (fun w hS => x_move (F.t 5 rfl)) rfl fun a F => ?_
 refine rT 1 F rfl (by kernel_rfl) pq rfl hS (fun w hS => x_faddr Tryz.underlying64 rfl ty9 (by decide) (F.t 6 rfl) rfl) rfl fun a F => ?_
 refine rT 2 F rfl (by kernel_rfl) pq rfl hS (fun w hS => x_load1 ty9 (F.t 53 rfl) (blk_cell (SL.at_ hS 6 rfl) 0 rfl)) rfl fun a F => ?_
 refine rT 5 F rfl (by kernel_rfl) pq rfl hS (fun w hS => x_faddr Tryz.underlying64 rfl ty3 (by decide) (F.t 6 rfl) rfl) rfl fun a F => ?_
 refine rT 6 F rfl (by kernel_rfl) pq rfl hS (fun w hS => x_load1 ty3 (F.t 57 rfl) (blk_cell (SL.at_ hS 6 rfl) 1 rfl)) rfl fun a F => ?_
 refine rT 7 F rfl (by kernel_rfl) pq rfl hS (fun w hS => x_conv Tryz.underlying59 ⟨_, Tryz.underlying3⟩ (F.t 58 rfl) (wu64 (by have := (rightT_parts (rightC_3 hr hk3)); omega) (by have := (rightT_parts (rightC_3 hr hk3)); omega))) rfl fun a F => ?_
 refine rT 10 F rfl (by kernel_rfl) pq rfl hS (fun w hS => x_faddr Tryz.underlying64 rfl ty59 (by decide) (F.t 6 rfl) rfl) rfl fun a F => ?_
 refine rT 11 F rfl (by kernel_rfl) pq rfl hS (fun w hS => x_load1 ty59 (F.t 62 rfl) (blk_cell (SL.at_ hS 6 rfl) 2 rfl)) rfl fun a F => ?_
 refine rT 14 F rfl (by kernel_rfl) pq rfl hS (fun w hS => x_faddr Tryz.underlying64 rfl ty59 (by decide) (F.t 6 rfl) rfl) rfl fun a F => ?_
 refine rT 15 F rfl (by kernel_rfl) pq rfl hS (fun w hS => x_load1 ty59 (F.t 66 rfl) (blk_cell (SL.at_ hS 6 rfl) 3 rfl)) rfl fun a F => ?_
 refine rT 18 F rfl (by kernel_rfl) pq rfl hS (fun w hS => x_move (F.t 7 rfl)) rfl fun a F => ?_
 refine rT 19 F rfl (by kernel_rfl) pq rfl hS (fun w hS => x_buildS (cells := #[.int .i64 8, .slice Ar49 (encT c.timer.steps).length cr49]) (places := #[(0, 1), (1, 1)]) Tryz.underlying57 ty57 (by kernel_rfl) (by simp only [bM, F.t 70 rfl] <;> rfl) rfl) rfl fun a F => ?_
 refine r_do2 3 8 rfl rfl (by kernel_rfl) rfl rfl rfl rfl ?_ ?_
 ·
  refine w_s2b 55 (xs := c.timer.name) F H rfl Tryz.underlying9 Tryz.underlying27 Tryz.underlying5 (F.t 54 rfl) hb.timer.name (by have := (rightT_parts (rightC_3 hr hk3)); omega) ?_
  clear F H; intro a w b55 c55 hb55_ F H
  refine aN (SL.of H (sub_cons (sub_nil _) 6 rfl)) fun hS => ?_
  refine rT 4 F rfl (by kernel_rfl) pq rfl hS (fun w hS => x_buildS (cells := #[.int .i64 4, .slice (some ⟨b55, 0, none⟩) c.timer.name.length c55]) (places := #[(0, 1), (1, 1)]) Tryz.underlying57 ty57 (by kernel_rfl) (by simp only [bM, F.t 55 rfl] <;> rfl) rfl) rfl fun a F => ?_
  refine r_do 8 rfl (by kernel_rfl) rfl rfl ?_
  refine w_call F (x_enter Tryz.func32 (by kernel_rfl) rfl (by simp only [bM, F.t 59 rfl] <;> rfl)) (rbI_calls _ (by have := (rightT_parts (rightC_3 hr hk3)); exact ⟨by omega, by omega⟩)) rfl rfl ?_
  rintro _ w ⟨vr60, rfl, hm_, hr_⟩; refine ⟨_, rfl, ?_⟩; clear F; intro a F; have H := Hp.rowOut H 60 hm_ hr_; obtain ⟨Ar60, cr60, rfl⟩ := (H.row 60 rfl).form
  refine aN (SL.of H (sub_cons (sub_nil _) 6 rfl)) fun hS => ?_
  have H := H.freeze 60 rfl (fun kb => (Value.slice Ar60 (bI c.timer.ver).length cr60).ownBlock = some kb) (fun kb => ⟨fun h => .inr h, fun h => h.resolve_left id⟩)
  refine rT 9 F rfl (by kernel_rfl) pq rfl hS (fun w hS => x_buildS (cells := #[.int .i64 5, .slice Ar60 (bI c.timer.ver).length cr60]) (places := #[(0, 1), (1, 1)]) Tryz.underlying57 ty57 (by kernel_rfl) (by simp only [bM, F.t 60 rfl] <;> rfl) rfl) rfl fun a F => ?_
  refine r_do 12 rfl (by kernel_rfl) rfl rfl ?_
  refine w_call F (x_enter Tryz.func32 (by kernel_rfl) rfl (by simp only [bM, F.t 63 rfl] <;> rfl)) (rbI_calls _ hb.timer.tick) rfl rfl ?_
  rintro _ w ⟨vr64, rfl, hm_, hr_⟩; refine ⟨_, rfl, ?_⟩; clear F; intro a F; have H := Hp.rowOut H 64 hm_ hr_; obtain ⟨Ar64, cr64, rfl⟩ := (H.row 64 rfl).form
  refine aN (SL.of H (sub_cons (sub_nil _) 6 rfl)) fun hS => ?_
  have H := H.freeze 64 rfl (fun kb => (Value.slice Ar64 (bI c.timer.tick).length cr64).ownBlock = some kb) (fun kb => ⟨fun h => .inr h, fun h => h.resolve_left id⟩)
  refine rT 13 F rfl (by kernel_rfl) pq rfl hS (fun w hS => x_buildS (cells := #[.int .i64 6, .slice Ar64 (bI c.timer.tick).length cr64]) (places := #[(0, 1), (1, 1)]) Tryz.underlying57 ty57 (by kernel_rfl) (by simp only [bM, F.t 64 rfl] <;> rfl) rfl) rfl fun a F => ?_
  refine r_do 16 rfl (by kernel_rfl) rfl rfl ?_
  refine w_call F (x_enter Tryz.func32 (by kernel_rfl) rfl (by simp only [bM, F.t 67 rfl] <;> rfl)) (rbI_calls _ hb.timer.every) rfl rfl ?_
  rintro _ w ⟨vr68, rfl, hm_, hr_⟩; refine ⟨_, rfl, ?_⟩; clear F; intro a F; have H := Hp.rowOut H 68 hm_ hr_; obtain ⟨Ar68, cr68, rfl⟩ := (H.row 68 rfl).form
  refine aN (SL.of H (sub_cons (sub_nil _) 6 rfl)) fun hS => ?_
  have H := H.freeze 68 rfl (fun kb => (Value.slice Ar68 (bI c.timer.every).length cr68).ownBlock = some kb) (fun kb => ⟨fun h => .inr h, fun h => h.resolve_left id⟩)
  refine rT 17 F rfl (by kernel_rfl) pq rfl hS (fun w hS => x_buildS (cells := #[.int .i64 7, .slice Ar68 (bI c.timer.every).length cr68]) (places := #[(0, 1), (1, 1)]) Tryz.underlying57 ty57 (by kernel_rfl) (by simp only [bM, F.t 68 rfl] <;> rfl) rfl) rfl fun a F => ?_
  refine r_do 20 rfl (by kernel_rfl) rfl rfl ?_
  refine w_litE 72 FE ([((4, c.timer.name) : Fld), ((5, (bI c.timer.ver)) : Fld), ((6, (bI c.timer.tick)) : Fld), ((7, (bI c.timer.every)) : Fld), ((8, (encT c.timer.steps)) : Fld)]) #[.int .i64 4, .slice (some ⟨b55, 0, none⟩) c.timer.name.length c55, .int .i64 5, .slice Ar60 (bI c.timer.ver).length cr60, .int .i64 6, .slice Ar64 (bI c.timer.tick).length cr64, .int .i64 7, .slice Ar68 (bI c.timer.every).length cr68, .int .i64 8, .slice Ar49 (encT c.timer.steps).length cr49] (fun kb => (fun kb => kb = b55) kb ∨ (fun kb => (Value.slice Ar60 (bI c.timer.ver).length cr60).ownBlock = some kb) kb ∨ (fun kb => (Value.slice Ar64 (bI c.timer.tick).length cr64).ownBlock = some kb) kb ∨ (fun kb => (Value.slice Ar68 (bI c.timer.every).length cr68).ownBlock = some kb) kb ∨ (fun kb => (Value.slice Ar49 (encT c.timer.steps).length cr49).ownBlock = some kb) kb) F H rfl Tryz.underlying60 ty57 (by simp only [bM, F.t 56 rfl, F.t 61 rfl, F.t 65 rfl, F.t 69 rfl, F.t 71 rfl] <;> rfl) rfl (by decide) (by decide) (by kernel_rfl) ((((((Elems.single (fld_mk (f := ((4, c.timer.name) : Fld)) (((H.rd 55 rfl)).move (fun _ _ _ => rfl) (fun k h _ => .inl h)))).append (Elems.single (fld_mk (f := ((5, (bI c.timer.ver)) : Fld)) (((H.rd 60 rfl)).move (fun _ _ _ => rfl) (fun k h _ => .inr (.inl h)))))).append (Elems.single (fld_mk (f := ((6, (bI c.timer.tick)) : Fld)) (((H.rd 64 rfl)).move (fun _ _ _ => rfl) (fun k h _ => .inr (.inr (.inl h))))))).append (Elems.single (fld_mk (f := ((7, (bI c.timer.every)) : Fld)) (((H.rd 68 rfl)).move (fun _ _ _ => rfl) (fun k h _ => .inr (.inr (.inr (.inl h)))))))).append (Elems.single (fld_mk (f := ((8, (encT c.timer.steps)) : Fld)) (((H.rd 49 rfl)).move (fun _ _ _ => rfl) (fun k h _ => .inr (.inr (.inr (.inr (h)))))))))) (fun kb h => h.elim (fun h => ⟨55, _, rfl, h⟩) (fun h => h.elim (fun h => ⟨60, _, rfl, h⟩) (fun h => h.elim (fun h => ⟨64, _, rfl, h⟩) (fun h => h.elim (fun h => ⟨68, _, rfl, h⟩) (fun h => ⟨49, _, rfl, h⟩))))) ?_
  clear F H; intro a w b72 F H
  refine aN (SL.of H (sub_cons (sub_nil _) 6 rfl)) fun hS => ?_
  have H := H.freeze 72 rfl (fun kb => (fun kb => (fun kb => kb = b55) kb ∨ (fun kb => (Value.slice Ar60 (bI c.timer.ver).length cr60).ownBlock = some kb) kb ∨ (fun kb => (Value.slice Ar64 (bI c.timer.tick).length cr64).ownBlock = some kb) kb ∨ (fun kb => (Value.slice Ar68 (bI c.timer.every).length cr68).ownBlock = some kb) kb ∨ (fun kb => (Value.slice Ar49 (encT c.timer.steps).length cr49).ownBlock = some kb) kb) kb ∨ (Value.slice (some ⟨b72, 0, none⟩) ([((4, c.timer.name) : Fld), ((5, (bI c.timer.ver)) : Fld), ((6, (bI c.timer.tick)) : Fld), ((7, (bI c.timer.every)) : Fld), ((8, (encT c.timer.steps)) : Fld)]).length ([((4, c.timer.name) : Fld), ((5, (bI c.timer.ver)) : Fld), ((6, (bI c.timer.tick)) : Fld), ((7, (bI c.timer.every)) : Fld), ((8, (encT c.timer.steps)) : Fld)]).length).ownBlock = some kb) (fun kb => Iff.rfl)
  refine r_do 21 rfl (by kernel_rfl) rfl rfl ?_
  refine w_append 20 72 (xs := ([((1, [c.kind]) : Fld)])) (ys := ([((4, c.timer.name) : Fld), ((5, (bI c.timer.ver)) : Fld), ((6, (bI c.timer.tick)) : Fld), ((7, (bI c.timer.every)) : Fld), ((8, (encT c.timer.steps)) : Fld)])) F H rfl Tryz.underlying60 ty57 rfl rfl rfl rfl ((H.rd 72 rfl)) oI (F.t 52 rfl) (F.t 72 rfl) (by simp only [lN] at *; omega) (by simp only [lN, maxLen] at *; omega) (fun kb => (fun kb => (Value.slice (some ⟨b18, 0, none⟩) ([c.kind]).length ([c.kind]).length).ownBlock = some kb) kb ∨ (fun kb => (fun kb => (fun kb => kb = b55) kb ∨ (fun kb => (Value.slice Ar60 (bI c.timer.ver).length cr60).ownBlock = some kb) kb ∨ (fun kb => (Value.slice Ar64 (bI c.timer.tick).length cr64).ownBlock = some kb) kb ∨ (fun kb => (Value.slice Ar68 (bI c.timer.every).length cr68).ownBlock = some kb) kb ∨ (fun kb => (Value.slice Ar49 (encT c.timer.steps).length cr49).ownBlock = some kb) kb) kb ∨ (Value.slice (some ⟨b72, 0, none⟩) ([((4, c.timer.name) : Fld), ((5, (bI c.timer.ver)) : Fld), ((6, (bI c.timer.tick)) : Fld), ((7, (bI c.timer.every)) : Fld), ((8, (encT c.timer.steps)) : Fld)]).length ([((4, c.timer.name) : Fld), ((5, (bI c.timer.ver)) : Fld), ((6, (bI c.timer.tick)) : Fld), ((7, (bI c.timer.every)) : Fld), ((8, (encT c.timer.steps)) : Fld)]).length).ownBlock = some kb) kb) (fun w' v' h => h) (by rintro k_ (hk_ | hk_); exact .inl hk_; exact .inr hk_) ?_
  clear F H; intro a w v73 F H
  refine aN (SL.of H (sub_cons (sub_nil _) 6 rfl)) fun hS => ?_
  refine rT 22 F rfl (by kernel_rfl) pq rfl hS (fun w hS => x_assign (F.t 73 rfl)) rfl fun a F => ?_
  refine r_end (by kernel_rfl) ?_; clear hS
  exact hJr12 _ _ _ _ _ _ _ _ _ _ _ _ (F.bare.add F 5 rfl) (H.sub _ (sub_cons (sub_cons (sub_cons (sub_cons (sub_cons (sub_cons (sub_cons (sub_cons (sub_cons (sub_cons (sub_cons (sub_nil _) 72 rfl) 68 rfl) 64 rfl) 60 rfl) 55 rfl) 49 rfl) 6 rfl) 20 rfl) 18 rfl) 1 rfl) 900 rfl))
 ·
  refine w_call F (x_enter Tryz.func32 (by kernel_rfl) rfl (by simp only [bM, F.t 59 rfl] <;> rfl)) (rbI_calls _ (by have := (rightT_parts (rightC_3 hr hk3)); exact ⟨by omega, by omega⟩)) rfl rfl ?_
  rintro _ w ⟨vr60, rfl, hm_, hr_⟩; refine ⟨_, rfl, ?_⟩; clear F; intro a F; have H := Hp.rowOut H 60 hm_ hr_; obtain ⟨Ar60, cr60, rfl⟩ := (H.row 60 rfl).form
  refine aN (SL.of H (sub_cons (sub_nil _) 6 rfl)) fun hS => ?_
  have H := H.freeze 60 rfl (fun kb => (Value.slice Ar60 (bI c.timer.ver).length cr60).ownBlock = some kb) (fun kb => ⟨fun h => .inr h, fun h => h.resolve_left id⟩)
  refine rT 9 F rfl (by kernel_rfl) pq rfl hS (fun w hS => x_buildS (cells := #[.int .i64 5, .slice Ar60 (bI c.timer.ver).length cr60]) (places := #[(0, 1), (1, 1)]) Tryz.underlying57 ty57 (by kernel_rfl) (by simp only [bM, F.t 60 rfl] <;> rfl) rfl) rfl fun a F => ?_
  refine r_do2 3 12 rfl rfl (by kernel_rfl) rfl rfl rfl rfl ?_ ?_
  ·
   refine w_s2b 55 (xs := c.timer.name) F H rfl Tryz.underlying9 Tryz.underlying27 Tryz.underlying5 (F.t 54 rfl) hb.timer.name (by have := (rightT_parts (rightC_3 hr hk3)); omega) ?_
   clear F H; intro a w b55 c55 hb55_ F H
   refine aN (SL.of H (sub_cons (sub_nil _) 6 rfl)) fun hS => ?_
   refine rT 4 F rfl (by kernel_rfl) pq rfl hS (fun w hS => x_buildS (cells := #[.int .i64 4, .slice (some ⟨b55, 0, none⟩) c.timer.name.length c55]) (places := #[(0, 1), (1, 1)]) Tryz.underlying57 ty57 (by kernel_rfl) (by simp only [bM, F.t 55 rfl] <;> rfl) rfl) rfl fun a F => ?_
   refine r_do 12 rfl (by kernel_rfl) rfl rfl ?_
   refine w_call F (x_enter Tryz.func32 (by kernel_rfl) rfl (by simp only [bM, F.t 63 rfl] <;> rfl)) (rbI_calls _ hb.timer.tick) rfl rfl ?_
   rintro _ w ⟨vr64, rfl, hm_, hr_⟩; refine ⟨_, rfl, ?_⟩; clear F; intro a F; have H := Hp.rowOut H 64 hm_ hr_; obtain ⟨Ar64, cr64, rfl⟩ := (H.row 64 rfl).form
   refine aN (SL.of H (sub_cons (sub_nil _) 6 rfl)) fun hS => ?_
   have H := H.freeze 64 rfl (fun kb => (Value.slice Ar64 (bI c.timer.tick).length cr64).ownBlock = some kb) (fun kb => ⟨fun h => .inr h, fun h => h.resolve_left id⟩)
   refine rT 13 F rfl (by kernel_rfl) pq rfl hS (fun w hS => x_buildS (cells := #[.int .i64 6, .slice Ar64 (bI c.timer.tick).length cr64]) (places := #[(0, 1), (1, 1)]) Tryz.underlying57 ty57 (by kernel_rfl) (by simp only [bM, F.t 64 rfl] <;> rfl) rfl) rfl fun a F => ?_
   refine r_do 16 rfl (by kernel_rfl) rfl rfl ?_
   refine w_call F (x_enter Tryz.func32 (by kernel_rfl) rfl (by simp only [bM, F.t 67 rfl] <;> rfl)) (rbI_calls _ hb.timer.every) rfl rfl ?_
   rintro _ w ⟨vr68, rfl, hm_, hr_⟩; refine ⟨_, rfl, ?_⟩; clear F; intro a F; have H := Hp.rowOut H 68 hm_ hr_; obtain ⟨Ar68, cr68, rfl⟩ := (H.row 68 rfl).form
   refine aN (SL.of H (sub_cons (sub_nil _) 6 rfl)) fun hS => ?_
   have H := H.freeze 68 rfl (fun kb => (Value.slice Ar68 (bI c.timer.every).length cr68).ownBlock = some kb) (fun kb => ⟨fun h => .inr h, fun h => h.resolve_left id⟩)
   refine rT 17 F rfl (by kernel_rfl) pq rfl hS (fun w hS => x_buildS (cells := #[.int .i64 7, .slice Ar68 (bI c.timer.every).length cr68]) (places := #[(0, 1), (1, 1)]) Tryz.underlying57 ty57 (by kernel_rfl) (by simp only [bM, F.t 68 rfl] <;> rfl) rfl) rfl fun a F => ?_
   refine r_do 20 rfl (by kernel_rfl) rfl rfl ?_
   refine w_litE 72 FE ([((4, c.timer.name) : Fld), ((5, (bI c.timer.ver)) : Fld), ((6, (bI c.timer.tick)) : Fld), ((7, (bI c.timer.every)) : Fld), ((8, (encT c.timer.steps)) : Fld)]) #[.int .i64 4, .slice (some ⟨b55, 0, none⟩) c.timer.name.length c55, .int .i64 5, .slice Ar60 (bI c.timer.ver).length cr60, .int .i64 6, .slice Ar64 (bI c.timer.tick).length cr64, .int .i64 7, .slice Ar68 (bI c.timer.every).length cr68, .int .i64 8, .slice Ar49 (encT c.timer.steps).length cr49] (fun kb => (fun kb => kb = b55) kb ∨ (fun kb => (Value.slice Ar60 (bI c.timer.ver).length cr60).ownBlock = some kb) kb ∨ (fun kb => (Value.slice Ar64 (bI c.timer.tick).length cr64).ownBlock = some kb) kb ∨ (fun kb => (Value.slice Ar68 (bI c.timer.every).length cr68).ownBlock = some kb) kb ∨ (fun kb => (Value.slice Ar49 (encT c.timer.steps).length cr49).ownBlock = some kb) kb) F H rfl Tryz.underlying60 ty57 (by simp only [bM, F.t 56 rfl, F.t 61 rfl, F.t 65 rfl, F.t 69 rfl, F.t 71 rfl] <;> rfl) rfl (by decide) (by decide) (by kernel_rfl) ((((((Elems.single (fld_mk (f := ((4, c.timer.name) : Fld)) (((H.rd 55 rfl)).move (fun _ _ _ => rfl) (fun k h _ => .inl h)))).append (Elems.single (fld_mk (f := ((5, (bI c.timer.ver)) : Fld)) (((H.rd 60 rfl)).move (fun _ _ _ => rfl) (fun k h _ => .inr (.inl h)))))).append (Elems.single (fld_mk (f := ((6, (bI c.timer.tick)) : Fld)) (((H.rd 64 rfl)).move (fun _ _ _ => rfl) (fun k h _ => .inr (.inr (.inl h))))))).append (Elems.single (fld_mk (f := ((7, (bI c.timer.every)) : Fld)) (((H.rd 68 rfl)).move (fun _ _ _ => rfl) (fun k h _ => .inr (.inr (.inr (.inl h)))))))).append (Elems.single (fld_mk (f := ((8, (encT c.timer.steps)) : Fld)) (((H.rd 49 rfl)).move (fun _ _ _ => rfl) (fun k h _ => .inr (.inr (.inr (.inr (h)))))))))) (fun kb h => h.elim (fun h => ⟨55, _, rfl, h⟩) (fun h => h.elim (fun h => ⟨60, _, rfl, h⟩) (fun h => h.elim (fun h => ⟨64, _, rfl, h⟩) (fun h => h.elim (fun h => ⟨68, _, rfl, h⟩) (fun h => ⟨49, _, rfl, h⟩))))) ?_
   clear F H; intro a w b72 F H
   refine aN (SL.of H (sub_cons (sub_nil _) 6 rfl)) fun hS => ?_
   have H := H.freeze 72 rfl (fun kb => (fun kb => (fun kb => kb = b55) kb ∨ (fun kb => (Value.slice Ar60 (bI c.timer.ver).length cr60).ownBlock = some kb) kb ∨ (fun kb => (Value.slice Ar64 (bI c.timer.tick).length cr64).ownBlock = some kb) kb ∨ (fun kb => (Value.slice Ar68 (bI c.timer.every).length cr68).ownBlock = some kb) kb ∨ (fun kb => (Value.slice Ar49 (encT c.timer.steps).length cr49).ownBlock = some kb) kb) kb ∨ (Value.slice (some ⟨b72, 0, none⟩) ([((4, c.timer.name) : Fld), ((5, (bI c.timer.ver)) : Fld), ((6, (bI c.timer.tick)) : Fld), ((7, (bI c.timer.every)) : Fld), ((8, (encT c.timer.steps)) : Fld)]).length ([((4, c.timer.name) : Fld), ((5, (bI c.timer.ver)) : Fld), ((6, (bI c.timer.tick)) : Fld), ((7, (bI c.timer.every)) : Fld), ((8, (encT c.timer.steps)) : Fld)]).length).ownBlock = some kb) (fun kb => Iff.rfl)
   refine r_do 21 rfl (by kernel_rfl) rfl rfl ?_
   refine w_append 20 72 (xs := ([((1, [c.kind]) : Fld)])) (ys := ([((4, c.timer.name) : Fld), ((5, (bI c.timer.ver)) : Fld), ((6, (bI c.timer.tick)) : Fld), ((7, (bI c.timer.every)) : Fld), ((8, (encT c.timer.steps)) : Fld)])) F H rfl Tryz.underlying60 ty57 rfl rfl rfl rfl ((H.rd 72 rfl)) oI (F.t 52 rfl) (F.t 72 rfl) (by simp only [lN] at *; omega) (by simp only [lN, maxLen] at *; omega) (fun kb => (fun kb => (Value.slice (some ⟨b18, 0, none⟩) ([c.kind]).length ([c.kind]).length).ownBlock = some kb) kb ∨ (fun kb => (fun kb => (fun kb => kb = b55) kb ∨ (fun kb => (Value.slice Ar60 (bI c.timer.ver).length cr60).ownBlock = some kb) kb ∨ (fun kb => (Value.slice Ar64 (bI c.timer.tick).length cr64).ownBlock = some kb) kb ∨ (fun kb => (Value.slice Ar68 (bI c.timer.every).length cr68).ownBlock = some kb) kb ∨ (fun kb => (Value.slice Ar49 (encT c.timer.steps).length cr49).ownBlock = some kb) kb) kb ∨ (Value.slice (some ⟨b72, 0, none⟩) ([((4, c.timer.name) : Fld), ((5, (bI c.timer.ver)) : Fld), ((6, (bI c.timer.tick)) : Fld), ((7, (bI c.timer.every)) : Fld), ((8, (encT c.timer.steps)) : Fld)]).length ([((4, c.timer.name) : Fld), ((5, (bI c.timer.ver)) : Fld), ((6, (bI c.timer.tick)) : Fld), ((7, (bI c.timer.every)) : Fld), ((8, (encT c.timer.steps)) : Fld)]).length).ownBlock = some kb) kb) (fun w' v' h => h) (by rintro k_ (hk_ | hk_); exact .inl hk_; exact .inr hk_) ?_
   clear F H; intro a w v73 F H
   refine aN (SL.of H (sub_cons (sub_nil _) 6 rfl)) fun hS => ?_
   refine rT 22 F rfl (by kernel_rfl) pq rfl hS (fun w hS => x_assign (F.t 73 rfl)) rfl fun a F => ?_
   refine r_end (by kernel_rfl) ?_; clear hS
   exact hJr12 _ _ _ _ _ _ _ _ _ _ _ _ (F.bare.add F 5 rfl) (H.sub _ (sub_cons (sub_cons (sub_cons (sub_cons (sub_cons (sub_cons (sub_cons (sub_cons (sub_cons (sub_cons (sub_cons (sub_nil _) 72 rfl) 68 rfl) 64 rfl) 60 rfl) 55 rfl) 49 rfl) 6 rfl) 20 rfl) 18 rfl) 1 rfl) 900 rfl))
  ·
   refine w_call F (x_enter Tryz.func32 (by kernel_rfl) rfl (by simp only [bM, F.t 63 rfl] <;> rfl)) (rbI_calls _ hb.timer.tick) rfl rfl ?_
   rintro _ w ⟨vr64, rfl, hm_, hr_⟩; refine ⟨_, rfl, ?_⟩; clear F; intro a F; have H := Hp.rowOut H 64 hm_ hr_; obtain ⟨Ar64, cr64, rfl⟩ := (H.row 64 rfl).form
   refine aN (SL.of H (sub_cons (sub_nil _) 6 rfl)) fun hS => ?_
   have H := H.freeze 64 rfl (fun kb => (Value.slice Ar64 (bI c.timer.tick).length cr64).ownBlock = some kb) (fun kb => ⟨fun h => .inr h, fun h => h.resolve_left id⟩)
   refine rT 13 F rfl (by kernel_rfl) pq rfl hS (fun w hS => x_buildS (cells := #[.int .i64 6, .slice Ar64 (bI c.timer.tick).length cr64]) (places := #[(0, 1), (1, 1)]) Tryz.underlying57 ty57 (by kernel_rfl) (by simp only [bM, F.t 64 rfl] <;> rfl) rfl) rfl fun a F => ?_
   refine r_do2 3 16 rfl rfl (by kernel_rfl) rfl rfl rfl rfl ?_ ?_
   ·
    refine w_s2b 55 (xs := c.timer.name) F H rfl Tryz.underlying9 Tryz.underlying27 Tryz.underlying5 (F.t 54 rfl) hb.timer.name (by have := (rightT_parts (rightC_3 hr hk3)); omega) ?_
    clear F H; intro a w b55 c55 hb55_ F H
    refine aN (SL.of H (sub_cons (sub_nil _) 6 rfl)) fun hS => ?_
    refine rT 4 F rfl (by kernel_rfl) pq rfl hS (fun w hS => x_buildS (cells := #[.int .i64 4, .slice (some ⟨b55, 0, none⟩) c.timer.name.length c55]) (places := #[(0, 1), (1, 1)]) Tryz.underlying57 ty57 (by kernel_rfl) (by simp only [bM, F.t 55 rfl] <;> rfl) rfl) rfl fun a F => ?_
    refine r_do 16 rfl (by kernel_rfl) rfl rfl ?_
    refine w_call F (x_enter Tryz.func32 (by kernel_rfl) rfl (by simp only [bM, F.t 67 rfl] <;> rfl)) (rbI_calls _ hb.timer.every) rfl rfl ?_
    rintro _ w ⟨vr68, rfl, hm_, hr_⟩; refine ⟨_, rfl, ?_⟩; clear F; intro a F; have H := Hp.rowOut H 68 hm_ hr_; obtain ⟨Ar68, cr68, rfl⟩ := (H.row 68 rfl).form
    refine aN (SL.of H (sub_cons (sub_nil _) 6 rfl)) fun hS => ?_
    have H := H.freeze 68 rfl (fun kb => (Value.slice Ar68 (bI c.timer.every).length cr68).ownBlock = some kb) (fun kb => ⟨fun h => .inr h, fun h => h.resolve_left id⟩)
    refine rT 17 F rfl (by kernel_rfl) pq rfl hS (fun w hS => x_buildS (cells := #[.int .i64 7, .slice Ar68 (bI c.timer.every).length cr68]) (places := #[(0, 1), (1, 1)]) Tryz.underlying57 ty57 (by kernel_rfl) (by simp only [bM, F.t 68 rfl] <;> rfl) rfl) rfl fun a F => ?_
    refine r_do 20 rfl (by kernel_rfl) rfl rfl ?_
    refine w_litE 72 FE ([((4, c.timer.name) : Fld), ((5, (bI c.timer.ver)) : Fld), ((6, (bI c.timer.tick)) : Fld), ((7, (bI c.timer.every)) : Fld), ((8, (encT c.timer.steps)) : Fld)]) #[.int .i64 4, .slice (some ⟨b55, 0, none⟩) c.timer.name.length c55, .int .i64 5, .slice Ar60 (bI c.timer.ver).length cr60, .int .i64 6, .slice Ar64 (bI c.timer.tick).length cr64, .int .i64 7, .slice Ar68 (bI c.timer.every).length cr68, .int .i64 8, .slice Ar49 (encT c.timer.steps).length cr49] (fun kb => (fun kb => kb = b55) kb ∨ (fun kb => (Value.slice Ar60 (bI c.timer.ver).length cr60).ownBlock = some kb) kb ∨ (fun kb => (Value.slice Ar64 (bI c.timer.tick).length cr64).ownBlock = some kb) kb ∨ (fun kb => (Value.slice Ar68 (bI c.timer.every).length cr68).ownBlock = some kb) kb ∨ (fun kb => (Value.slice Ar49 (encT c.timer.steps).length cr49).ownBlock = some kb) kb) F H rfl Tryz.underlying60 ty57 (by simp only [bM, F.t 56 rfl, F.t 61 rfl, F.t 65 rfl, F.t 69 rfl, F.t 71 rfl] <;> rfl) rfl (by decide) (by decide) (by kernel_rfl) ((((((Elems.single (fld_mk (f := ((4, c.timer.name) : Fld)) (((H.rd 55 rfl)).move (fun _ _ _ => rfl) (fun k h _ => .inl h)))).append (Elems.single (fld_mk (f := ((5, (bI c.timer.ver)) : Fld)) (((H.rd 60 rfl)).move (fun _ _ _ => rfl) (fun k h _ => .inr (.inl h)))))).append (Elems.single (fld_mk (f := ((6, (bI c.timer.tick)) : Fld)) (((H.rd 64 rfl)).move (fun _ _ _ => rfl) (fun k h _ => .inr (.inr (.inl h))))))).append (Elems.single (fld_mk (f := ((7, (bI c.timer.every)) : Fld)) (((H.rd 68 rfl)).move (fun _ _ _ => rfl) (fun k h _ => .inr (.inr (.inr (.inl h)))))))).append (Elems.single (fld_mk (f := ((8, (encT c.timer.steps)) : Fld)) (((H.rd 49 rfl)).move (fun _ _ _ => rfl) (fun k h _ => .inr (.inr (.inr (.inr (h)))))))))) (fun kb h => h.elim (fun h => ⟨55, _, rfl, h⟩) (fun h => h.elim (fun h => ⟨60, _, rfl, h⟩) (fun h => h.elim (fun h => ⟨64, _, rfl, h⟩) (fun h => h.elim (fun h => ⟨68, _, rfl, h⟩) (fun h => ⟨49, _, rfl, h⟩))))) ?_
    clear F H; intro a w b72 F H
    refine aN (SL.of H (sub_cons (sub_nil _) 6 rfl)) fun hS => ?_
    have H := H.freeze 72 rfl (fun kb => (fun kb => (fun kb => kb = b55) kb ∨ (fun kb => (Value.slice Ar60 (bI c.timer.ver).length cr60).ownBlock = some kb) kb ∨ (fun kb => (Value.slice Ar64 (bI c.timer.tick).length cr64).ownBlock = some kb) kb ∨ (fun kb => (Value.slice Ar68 (bI c.timer.every).length cr68).ownBlock = some kb) kb ∨ (fun kb => (Value.slice Ar49 (encT c.timer.steps).length cr49).ownBlock = some kb) kb) kb ∨ (Value.slice (some ⟨b72, 0, none⟩) ([((4, c.timer.name) : Fld), ((5, (bI c.timer.ver)) : Fld), ((6, (bI c.timer.tick)) : Fld), ((7, (bI c.timer.every)) : Fld), ((8, (encT c.timer.steps)) : Fld)]).length ([((4, c.timer.name) : Fld), ((5, (bI c.timer.ver)) : Fld), ((6, (bI c.timer.tick)) : Fld), ((7, (bI c.timer.every)) : Fld), ((8, (encT c.timer.steps)) : Fld)]).length).ownBlock = some kb) (fun kb => Iff.rfl)
    refine r_do 21 rfl (by kernel_rfl) rfl rfl ?_
    refine w_append 20 72 (xs := ([((1, [c.kind]) : Fld)])) (ys := ([((4, c.timer.name) : Fld), ((5, (bI c.timer.ver)) : Fld), ((6, (bI c.timer.tick)) : Fld), ((7, (bI c.timer.every)) : Fld), ((8, (encT c.timer.steps)) : Fld)])) F H rfl Tryz.underlying60 ty57 rfl rfl rfl rfl ((H.rd 72 rfl)) oI (F.t 52 rfl) (F.t 72 rfl) (by simp only [lN] at *; omega) (by simp only [lN, maxLen] at *; omega) (fun kb => (fun kb => (Value.slice (some ⟨b18, 0, none⟩) ([c.kind]).length ([c.kind]).length).ownBlock = some kb) kb ∨ (fun kb => (fun kb => (fun kb => kb = b55) kb ∨ (fun kb => (Value.slice Ar60 (bI c.timer.ver).length cr60).ownBlock = some kb) kb ∨ (fun kb => (Value.slice Ar64 (bI c.timer.tick).length cr64).ownBlock = some kb) kb ∨ (fun kb => (Value.slice Ar68 (bI c.timer.every).length cr68).ownBlock = some kb) kb ∨ (fun kb => (Value.slice Ar49 (encT c.timer.steps).length cr49).ownBlock = some kb) kb) kb ∨ (Value.slice (some ⟨b72, 0, none⟩) ([((4, c.timer.name) : Fld), ((5, (bI c.timer.ver)) : Fld), ((6, (bI c.timer.tick)) : Fld), ((7, (bI c.timer.every)) : Fld), ((8, (encT c.timer.steps)) : Fld)]).length ([((4, c.timer.name) : Fld), ((5, (bI c.timer.ver)) : Fld), ((6, (bI c.timer.tick)) : Fld), ((7, (bI c.timer.every)) : Fld), ((8, (encT c.timer.steps)) : Fld)]).length).ownBlock = some kb) kb) (fun w' v' h => h) (by rintro k_ (hk_ | hk_); exact .inl hk_; exact .inr hk_) ?_
    clear F H; intro a w v73 F H
    refine aN (SL.of H (sub_cons (sub_nil _) 6 rfl)) fun hS => ?_
    refine rT 22 F rfl (by kernel_rfl) pq rfl hS (fun w hS => x_assign (F.t 73 rfl)) rfl fun a F => ?_
    refine r_end (by kernel_rfl) ?_; clear hS
    exact hJr12 _ _ _ _ _ _ _ _ _ _ _ _ (F.bare.add F 5 rfl) (H.sub _ (sub_cons (sub_cons (sub_cons (sub_cons (sub_cons (sub_cons (sub_cons (sub_cons (sub_cons (sub_cons (sub_cons (sub_nil _) 72 rfl) 68 rfl) 64 rfl) 60 rfl) 55 rfl) 49 rfl) 6 rfl) 20 rfl) 18 rfl) 1 rfl) 900 rfl))
   ·
    refine w_call F (x_enter Tryz.func32 (by kernel_rfl) rfl (by simp only [bM, F.t 67 rfl] <;> rfl)) (rbI_calls _ hb.timer.every) rfl rfl ?_
    rintro _ w ⟨vr68, rfl, hm_, hr_⟩; refine ⟨_, rfl, ?_⟩; clear F; intro a F; have H := Hp.rowOut H 68 hm_ hr_; obtain ⟨Ar68, cr68, rfl⟩ := (H.row 68 rfl).form
    refine aN (SL.of H (sub_cons (sub_nil _) 6 rfl)) fun hS => ?_
    have H := H.freeze 68 rfl (fun kb => (Value.slice Ar68 (bI c.timer.every).length cr68).ownBlock = some kb) (fun kb => ⟨fun h => .inr h, fun h => h.resolve_left id⟩)
    refine rT 17 F rfl (by kernel_rfl) pq rfl hS (fun w hS => x_buildS (cells := #[.int .i64 7, .slice Ar68 (bI c.timer.every).length cr68]) (places := #[(0, 1), (1, 1)]) Tryz.underlying57 ty57 (by kernel_rfl) (by simp only [bM, F.t 68 rfl] <;> rfl) rfl) rfl fun a F => ?_
    refine r_do 3 rfl (by kernel_rfl) rfl rfl ?_
    refine w_s2b 55 (xs := c.timer.name) F H rfl Tryz.underlying9 Tryz.underlying27 Tryz.underlying5 (F.t 54 rfl) hb.timer.name (by have := (rightT_parts (rightC_3 hr hk3)); omega) ?_
    clear F H; intro a w b55 c55 hb55_ F H
    refine aN (SL.of H (sub_cons (sub_nil _) 6 rfl)) fun hS => ?_
    refine rT 4 F rfl (by kernel_rfl) pq rfl hS (fun w hS => x_buildS (cells := #[.int .i64 4, .slice (some ⟨b55, 0, none⟩) c.timer.name.length c55]) (places := #[(0, 1), (1, 1)]) Tryz.underlying57 ty57 (by kernel_rfl) (by simp only [bM, F.t 55 rfl] <;> rfl) rfl) rfl fun a F => ?_
    refine r_do 20 rfl (by kernel_rfl) rfl rfl ?_
    refine w_litE 72 FE ([((4, c.timer.name) : Fld), ((5, (bI c.timer.ver)) : Fld), ((6, (bI c.timer.tick)) : Fld), ((7, (bI c.timer.every)) : Fld), ((8, (encT c.timer.steps)) : Fld)]) #[.int .i64 4, .slice (some ⟨b55, 0, none⟩) c.timer.name.length c55, .int .i64 5, .slice Ar60 (bI c.timer.ver).length cr60, .int .i64 6, .slice Ar64 (bI c.timer.tick).length cr64, .int .i64 7, .slice Ar68 (bI c.timer.every).length cr68, .int .i64 8, .slice Ar49 (encT c.timer.steps).length cr49] (fun kb => (fun kb => kb = b55) kb ∨ (fun kb => (Value.slice Ar60 (bI c.timer.ver).length cr60).ownBlock = some kb) kb ∨ (fun kb => (Value.slice Ar64 (bI c.timer.tick).length cr64).ownBlock = some kb) kb ∨ (fun kb => (Value.slice Ar68 (bI c.timer.every).length cr68).ownBlock = some kb) kb ∨ (fun kb => (Value.slice Ar49 (encT c.timer.steps).length cr49).ownBlock = some kb) kb) F H rfl Tryz.underlying60 ty57 (by simp only [bM, F.t 56 rfl, F.t 61 rfl, F.t 65 rfl, F.t 69 rfl, F.t 71 rfl] <;> rfl) rfl (by decide) (by decide) (by kernel_rfl) ((((((Elems.single (fld_mk (f := ((4, c.timer.name) : Fld)) (((H.rd 55 rfl)).move (fun _ _ _ => rfl) (fun k h _ => .inl h)))).append (Elems.single (fld_mk (f := ((5, (bI c.timer.ver)) : Fld)) (((H.rd 60 rfl)).move (fun _ _ _ => rfl) (fun k h _ => .inr (.inl h)))))).append (Elems.single (fld_mk (f := ((6, (bI c.timer.tick)) : Fld)) (((H.rd 64 rfl)).move (fun _ _ _ => rfl) (fun k h _ => .inr (.inr (.inl h))))))).append (Elems.single (fld_mk (f := ((7, (bI c.timer.every)) : Fld)) (((H.rd 68 rfl)).move (fun _ _ _ => rfl) (fun k h _ => .inr (.inr (.inr (.inl h)))))))).append (Elems.single (fld_mk (f := ((8, (encT c.timer.steps)) : Fld)) (((H.rd 49 rfl)).move (fun _ _ _ => rfl) (fun k h _ => .inr (.inr (.inr (.inr (h)))))))))) (fun kb h => h.elim (fun h => ⟨55, _, rfl, h⟩) (fun h => h.elim (fun h => ⟨60, _, rfl, h⟩) (fun h => h.elim (fun h => ⟨64, _, rfl, h⟩) (fun h => h.elim (fun h => ⟨68, _, rfl, h⟩) (fun h => ⟨49, _, rfl, h⟩))))) ?_
    clear F H; intro a w b72 F H
    refine aN (SL.of H (sub_cons (sub_nil _) 6 rfl)) fun hS => ?_
    have H := H.freeze 72 rfl (fun kb => (fun kb => (fun kb => kb = b55) kb ∨ (fun kb => (Value.slice Ar60 (bI c.timer.ver).length cr60).ownBlock = some kb) kb ∨ (fun kb => (Value.slice Ar64 (bI c.timer.tick).length cr64).ownBlock = some kb) kb ∨ (fun kb => (Value.slice Ar68 (bI c.timer.every).length cr68).ownBlock = some kb) kb ∨ (fun kb => (Value.slice Ar49 (encT c.timer.steps).length cr49).ownBlock = some kb) kb) kb ∨ (Value.slice (some ⟨b72, 0, none⟩) ([((4, c.timer.name) : Fld), ((5, (bI c.timer.ver)) : Fld), ((6, (bI c.timer.tick)) : Fld), ((7, (bI c.timer.every)) : Fld), ((8, (encT c.timer.steps)) : Fld)]).length ([((4, c.timer.name) : Fld), ((5, (bI c.timer.ver)) : Fld), ((6, (bI c.timer.tick)) : Fld), ((7, (bI c.timer.every)) : Fld), ((8, (encT c.timer.steps)) : Fld)]).length).ownBlock = some kb) (fun kb => Iff.rfl)
    refine r_do 21 rfl (by kernel_rfl) rfl rfl ?_
    refine w_append 20 72 (xs := ([((1, [c.kind]) : Fld)])) (ys := ([((4, c.timer.name) : Fld), ((5, (bI c.timer.ver)) : Fld), ((6, (bI c.timer.tick)) : Fld), ((7, (bI c.timer.every)) : Fld), ((8, (encT c.timer.steps)) : Fld)])) F H rfl Tryz.underlying60 ty57 rfl rfl rfl rfl ((H.rd 72 rfl)) oI (F.t 52 rfl) (F.t 72 rfl) (by simp only [lN] at *; omega) (by simp only [lN, maxLen] at *; omega) (fun kb => (fun kb => (Value.slice (some ⟨b18, 0, none⟩) ([c.kind]).length ([c.kind]).length).ownBlock = some kb) kb ∨ (fun kb => (fun kb => (fun kb => kb = b55) kb ∨ (fun kb => (Value.slice Ar60 (bI c.timer.ver).length cr60).ownBlock = some kb) kb ∨ (fun kb => (Value.slice Ar64 (bI c.timer.tick).length cr64).ownBlock = some kb) kb ∨ (fun kb => (Value.slice Ar68 (bI c.timer.every).length cr68).ownBlock = some kb) kb ∨ (fun kb => (Value.slice Ar49 (encT c.timer.steps).length cr49).ownBlock = some kb) kb) kb ∨ (Value.slice (some ⟨b72, 0, none⟩) ([((4, c.timer.name) : Fld), ((5, (bI c.timer.ver)) : Fld), ((6, (bI c.timer.tick)) : Fld), ((7, (bI c.timer.every)) : Fld), ((8, (encT c.timer.steps)) : Fld)]).length ([((4, c.timer.name) : Fld), ((5, (bI c.timer.ver)) : Fld), ((6, (bI c.timer.tick)) : Fld), ((7, (bI c.timer.every)) : Fld), ((8, (encT c.timer.steps)) : Fld)]).length).ownBlock = some kb) kb) (fun w' v' h => h) (by rintro k_ (hk_ | hk_); exact .inl hk_; exact .inr hk_) ?_
    clear F H; intro a w v73 F H
    refine aN (SL.of H (sub_cons (sub_nil _) 6 rfl)) fun hS => ?_
    refine rT 22 F rfl (by kernel_rfl) pq rfl hS (fun w hS => x_assign (F.t 73 rfl)) rfl fun a F => ?_
    refine r_end (by kernel_rfl) ?_; clear hS
    exact hJr12 _ _ _ _ _ _ _ _ _ _ _ _ (F.bare.add F 5 rfl) (H.sub _ (sub_cons (sub_cons (sub_cons (sub_cons (sub_cons (sub_cons (sub_cons (sub_cons (sub_cons (sub_cons (sub_cons (sub_nil _) 72 rfl) 68 rfl) 64 rfl) 60 rfl) 55 rfl) 49 rfl) 6 rfl) 20 rfl) 18 rfl) 1 rfl) 900 rfl))
end Go.Proofs.YtiiklnghnifmjaaGreatDoor.Act
