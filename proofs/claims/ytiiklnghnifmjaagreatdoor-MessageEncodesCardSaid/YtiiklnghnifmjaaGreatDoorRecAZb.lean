/- The document's bytes of changes and messages, walked. -/
import Derived.Test.YtiiklnghnifmjaaGreatDoorRchAZb
import Derived.Test.YtiiklnghnifmjaaGreatDoorCrcRZb
import Derived.Test.YtiiklnghnifmjaaGreatDoorRdcDZb
set_option linter.unusedVariables false
set_option maxRecDepth 100000
set_option maxHeartbeats 1000000
set_option linter.unusedSimpArgs false
namespace Go.Proofs.YtiiklnghnifmjaaGreatDoor.Act
open Go.RowKit Go.Proofs.YtiiklnghnifmjaaGreatDoor.Sx Go.Proofs.YtiiklnghnifmjaaGreatDoor.Cod Go.Proofs.YtiiklnghnifmjaaGreatDoor.Num
theorem rbI_calls (w0 : World) {n : Int} (h : 0 ≤ n ∧ n < 18446744073709551616) : Calls Tryz.prog 32 #[.int .u64 n] w0 fun e w' => ∃ v, e = .returned v ∧ Mods (fun _ => False) w0 w' ∧ RowOut (.int .u8) 5 w0 w' v (bI n) := by
 obtain ⟨k, rfl⟩ : ∃ k : Nat, n = (k : Int) := ⟨n.toNat, by omega⟩
 exact refBytes_calls w0 k (by omega)
theorem rencC_calls (w0 : World) {c : ChangeD} {okc0 : Nat → Prop} {Ac0 : Option Addr} {cc0 : Nat} (hrc0 : Rd StE w0 okc0 Ac0 c.timer.steps cc0) (hb : ChangeB c) : Calls Tryz.prog 33 #[.agg #[.int .i64 c.kind, .string (strOfNums c.key), .string (strOfNums c.value), .string (strOfNums c.timer.name), .int .i64 c.timer.ver, .int .u64 c.timer.tick, .int .u64 c.timer.every, .slice Ac0 c.timer.steps.length cc0]] w0 fun e w' => ∃ v, e = .returned (.tuple #[v, .int .i64 (encCE c)]) ∧ Mods (fun _ => False) w0 w' ∧ RowOut (.int .u8) 5 w0 w' v (encC c) := by
 refine cow Tryz.func33 rfl Tryz.ntmps33 (Nat.le_of_ble_eq_true rfl) fun a F => ?_
 have H := Hp.nil (fun _ => False) w0
 have H := H.arg 900 hrc0.all (fun _ h => ⟨h, fun h => h⟩)
 have hlec0 := hrc0.le; unfold maxLen at hlec0
 refine sr fun _ hK1 => ?_
 refine lp rfl ?_
 refine w_box 1 F H rfl (F.t 0 rfl) ?_
 clear F H; intro a w b1 F H
 refine la F rfl (x_assign rfl) fun a F => ?_
 refine la F rfl (x_assign rfl) fun a F => ?_
 refine wn (hK1 _ _ ?_)
 refine sr fun _ hK2 => ?_
 refine la F rfl (x_loadn ty66 (F.t 1 rfl) rfl (blk_whole (H.at 1 rfl))) fun a F => ?_
 refine lp rfl ?_
 refine w_call F (x_enter Tryz.func51 (by kernel_rfl) rfl (by simp only [bM, F.t 11 rfl] <;> rfl)) (r12right_calls (c := c) _ ((H.rd 900 rfl)) hb) rfl rfl ?_
 rintro _ w ⟨rfl, hm_⟩; refine ⟨_, rfl, ?_⟩; clear F; intro a F; have H := H.same hm_
 refine la F rfl (x_assign (F.t 12 rfl)) fun a F => ?_
 refine wn (hK2 _ _ ?_)
 refine wp_seq_k fun _ hK3 => ?_
 refine sr fun _ hK4 => ?_
 refine la F rfl (x_move (F.t 4 rfl)) fun a F => ?_
 refine la F rfl (x_not (F.t 13 rfl)) fun a F => ?_
 refine wn (hK4 _ _ ?_)
 refine wp_cond_split (F.t 14 rfl) (fun hc14 => ?_) (fun hc14 => ?_)
 ·have hk14_1 := hc14; try simp only [bL] at hc14
  have hz : rightC c = false := by simpa using hc14
  refine sr fun _ hK5 => ?_
  refine la F rfl (x_assign rfl) fun a F => ?_
  refine la F rfl (x_assign rfl) fun a F => ?_
  refine wn (hK5 _ _ ?_)
  refine wp_ret ?_
  try simp only [Exit.then, Exit.inBlock]
  exact fin_ret F (res2 F rfl rfl rfl) ⟨.slice none 0 0, by rw [encCE_no hz] <;> rfl, H.mods, by rw [encC_no hz]; exact RowOut.nil _ _ _ _⟩
 have hk14_2 := hc14; try simp only [bL] at hc14
 have hr : rightC c = true := by simpa using hc14
 refine wp_skip ?_
 refine hK3 _ _ ?_
 refine sr fun _ hK6 => ?_
 refine la F rfl (x_faddr Tryz.underlying66 rfl ty61 (by decide) (F.t 1 rfl) rfl) fun a F => ?_
 refine la F rfl (x_load1 ty61 (F.t 15 rfl) (blk_cell (H.at 1 rfl) 0 rfl)) fun a F => ?_
 refine la F rfl (x_conv Tryz.underlying5 ⟨_, Tryz.underlying61⟩ (F.t 16 rfl) (wu8 (rightC_kind hr).1 (rightC_kind hr).2)) fun a F => ?_
 refine lp rfl ?_
 refine w_lit 18 (enc := Value.int .u8) (h1 := fun _ => rfl) ([c.kind]) F H rfl Tryz.underlying27 ty5 (by simp only [bM, F.t 17 rfl]; rfl) rfl (by decide) (by decide) (by kernel_rfl) ?_
 clear F H; intro a w b18 F H
 have H := H.freeze 18 rfl (fun kb => (Value.slice (some ⟨b18, 0, none⟩) ([c.kind]).length ([c.kind]).length).ownBlock = some kb) (fun kb => ⟨fun h => .inr h, fun h => h.resolve_left id⟩)
 refine la F rfl (x_buildS (cells := #[.int .i64 1, .slice (some ⟨b18, 0, none⟩) ([c.kind]).length ([c.kind]).length]) (places := #[(0, 1), (1, 1)]) Tryz.underlying57 ty57 (by kernel_rfl) (by simp only [bM, F.t 18 rfl] <;> rfl) rfl) fun a F => ?_
 refine lp rfl ?_
 refine w_litE 20 FE ([((1, [c.kind]) : Fld)]) #[.int .i64 1, .slice (some ⟨b18, 0, none⟩) ([c.kind]).length ([c.kind]).length] (fun kb => (Value.slice (some ⟨b18, 0, none⟩) ([c.kind]).length ([c.kind]).length).ownBlock = some kb) F H rfl Tryz.underlying60 ty57 (by simp only [bM, F.t 19 rfl] <;> rfl) rfl (by decide) (by decide) (by kernel_rfl) (Elems.single (fld_mk (f := ((1, [c.kind]) : Fld)) ((H.rd 18 rfl)))) (fun kb hk => ⟨18, _, rfl, hk⟩) ?_
 clear F H; intro a w b20 F H
 refine la F rfl (x_assign (F.t 20 rfl)) fun a F => ?_
 refine wn (hK6 _ _ ?_)
 refine wp_seq_k fun _ hK7 => ?_
 refine sr fun _ hK8 => ?_
 refine la F rfl (x_faddr Tryz.underlying66 rfl ty61 (by decide) (F.t 1 rfl) rfl) fun a F => ?_
 refine la F rfl (x_load1 ty61 (F.t 21 rfl) (blk_cell (H.at 1 rfl) 0 rfl)) fun a F => ?_
 refine la F rfl (x_neq (F.t 22 rfl) rfl) fun a F => ?_
 refine wn (hK8 _ _ ?_)
 refine wp_cond_split (F.t 23 rfl) (fun hc23 => ?_) (fun hc23 => ?_)
 ·have hk23_3 := hc23; try simp only [bL] at hc23
  have hk3 : ¬ c.kind = 3 := by omega
  refine wp_region_lit ?_
  refine la F rfl (x_move (F.t 5 rfl)) fun a F => ?_
  refine la F rfl (x_faddr Tryz.underlying66 rfl ty9 (by decide) (F.t 1 rfl) rfl) fun a F => ?_
  refine la F rfl (x_load1 ty9 (F.t 25 rfl) (blk_cell (H.at 1 rfl) 1 rfl)) fun a F => ?_
  refine lp rfl ?_
  refine w_s2b 27 (xs := c.key) F H rfl Tryz.underlying9 Tryz.underlying27 Tryz.underlying5 (F.t 26 rfl) hb.key (by have := nameI_parts (rightC_n hr hk3); omega) ?_
  clear F H; intro a w b27 c27 hb27_ F H
  refine la F rfl (x_buildS (cells := #[.int .i64 2, .slice (some ⟨b27, 0, none⟩) c.key.length c27]) (places := #[(0, 1), (1, 1)]) Tryz.underlying57 ty57 (by kernel_rfl) (by simp only [bM, F.t 27 rfl] <;> rfl) rfl) fun a F => ?_
  refine lp rfl ?_
  refine w_lit1 29 FE ((2, c.key) : Fld) #[.int .i64 2, .slice (some ⟨b27, 0, none⟩) c.key.length c27] (fun kb => kb = b27) F H rfl Tryz.underlying60 ty57 (by simp only [bM, F.t 28 rfl] <;> rfl) (by decide) (by kernel_rfl) (fld_mk (f := ((2, c.key) : Fld)) ((H.rd 27 rfl))) (fun kb hk => ⟨27, _, rfl, hk⟩) ?_
  clear F H; intro a w b29 F hb29_ H
  refine lp rfl ?_
  refine w_append 20 29 (xs := ([((1, [c.kind]) : Fld)])) (ys := ([((2, c.key) : Fld)])) F H rfl Tryz.underlying60 ty57 rfl rfl rfl rfl ((H.rd 29 rfl)) oI (F.t 24 rfl) (F.t 29 rfl) (by simp only [lN] at *; omega) (by simp only [lN, maxLen] at *; omega) (fun kb => (fun kb => (Value.slice (some ⟨b18, 0, none⟩) ([c.kind]).length ([c.kind]).length).ownBlock = some kb) kb ∨ (fun kb => (fun kb => kb = b27) kb ∨ kb = b29) kb) (fun w' v' h => h) (by rintro k_ (hk_ | hk_); exact .inl hk_; exact .inr hk_) ?_
  clear F H; intro a w v30 F H
  refine la F rfl (x_assign (F.t 30 rfl)) fun a F => ?_
  refine wn (hK7 _ _ ?_)
  refine wp_seq_k fun _ hK9 => ?_
  refine sr fun _ hK10 => ?_
  refine la F rfl (x_faddr Tryz.underlying66 rfl ty61 (by decide) (F.t 1 rfl) rfl) fun a F => ?_
  refine la F rfl (x_load1 ty61 (F.t 31 rfl) (blk_cell (H.at 1 rfl) 0 rfl)) fun a F => ?_
  refine la F rfl (x_eql (F.t 32 rfl) rfl) fun a F => ?_
  refine wn (hK10 _ _ ?_)
  refine wp_cond_split (F.t 33 rfl) (fun hc33 => ?_) (fun hc33 => ?_)
  ·have hk33_4 := hc33; try simp only [bL] at hc33
   refine wp_region_lit ?_
   refine la F rfl (x_move (F.t 5 rfl)) fun a F => ?_
   refine la F rfl (x_faddr Tryz.underlying66 rfl ty9 (by decide) (F.t 1 rfl) rfl) fun a F => ?_
   refine la F rfl (x_load1 ty9 (F.t 35 rfl) (blk_cell (H.at 1 rfl) 2 rfl)) fun a F => ?_
   refine lp rfl ?_
   refine w_s2b 37 (xs := c.value) F H rfl Tryz.underlying9 Tryz.underlying27 Tryz.underlying5 (F.t 36 rfl) hb.value (by have := (rightC_1 hr hc33).2; omega) ?_
   clear F H; intro a w b37 c37 hb37_ F H
   refine la F rfl (x_buildS (cells := #[.int .i64 3, .slice (some ⟨b37, 0, none⟩) c.value.length c37]) (places := #[(0, 1), (1, 1)]) Tryz.underlying57 ty57 (by kernel_rfl) (by simp only [bM, F.t 37 rfl] <;> rfl) rfl) fun a F => ?_
   refine lp rfl ?_
   refine w_lit1 39 FE ((3, c.value) : Fld) #[.int .i64 3, .slice (some ⟨b37, 0, none⟩) c.value.length c37] (fun kb => kb = b37) F H rfl Tryz.underlying60 ty57 (by simp only [bM, F.t 38 rfl] <;> rfl) (by decide) (by kernel_rfl) (fld_mk (f := ((3, c.value) : Fld)) ((H.rd 37 rfl))) (fun kb hk => ⟨37, _, rfl, hk⟩) ?_
   clear F H; intro a w b39 F hb39_ H
   refine lp rfl ?_
   refine w_append 20 39 (xs := (([((1, [c.kind]) : Fld)]) ++ [((2, c.key) : Fld)])) (ys := ([((3, c.value) : Fld)])) F H rfl Tryz.underlying60 ty57 rfl rfl rfl rfl ((H.rd 39 rfl)) oI (F.t 34 rfl) (F.t 39 rfl) (by simp only [lN] at *; omega) (by simp only [lN, maxLen] at *; omega) (fun kb => (fun kb => (fun kb => (Value.slice (some ⟨b18, 0, none⟩) ([c.kind]).length ([c.kind]).length).ownBlock = some kb) kb ∨ (fun kb => (fun kb => kb = b27) kb ∨ kb = b29) kb) kb ∨ (fun kb => (fun kb => kb = b37) kb ∨ kb = b39) kb) (fun w' v' h => h) (by rintro k_ (hk_ | hk_); exact .inl hk_; exact .inr hk_) ?_
   clear F H; intro a w v40 F H
   refine la F rfl (x_assign (F.t 40 rfl)) fun a F => ?_
   refine wn (hK9 _ _ ?_)
   refine wp_seq_k fun _ hK11 => ?_
   refine sr fun _ hK12 => ?_
   refine la F rfl (x_faddr Tryz.underlying66 rfl ty61 (by decide) (F.t 1 rfl) rfl) fun a F => ?_
   refine la F rfl (x_load1 ty61 (F.t 41 rfl) (blk_cell (H.at 1 rfl) 0 rfl)) fun a F => ?_
   refine la F rfl (x_eql (F.t 42 rfl) rfl) fun a F => ?_
   refine wn (hK12 _ _ ?_)
   refine wp_cond_false ((F.t 43 rfl).trans (by rw [(by simpa using hk23_3 : (decide (c.kind = 3)) = false)])) ?_
   refine wp_skip ?_
   refine hK11 _ _ ?_
   refine sr fun _ hK13 => ?_
   rw [chgF_1 hc33] at H
   obtain ⟨Av, cv, rfl⟩ := (H.row 20 rfl).form
   refine la F rfl (x_move (F.t 5 rfl)) fun a F => ?_
   refine lp rfl ?_
   refine w_call F (x_enter Tryz.func34 (by kernel_rfl) rfl (by simp only [bM, F.t 75 rfl] <;> rfl)) (refEnc_at (Row.rd (ok' := fun k_ => (fun kb => (fun kb => (fun kb => (Value.slice (some ⟨b18, 0, none⟩) ([c.kind]).length ([c.kind]).length).ownBlock = some kb) kb ∨ (fun kb => (fun kb => kb = b27) kb ∨ kb = b29) kb) kb ∨ (fun kb => (fun kb => kb = b37) kb ∨ kb = b39) kb) k_ ∨ (.slice Av (chgF c).length cv : Value).ownBlock = some k_) (H.row 20 rfl) (fun _ hk_ _ => .inl hk_) (fun _ hk_ => .inr hk_)) (encC_encR hr hb)) rfl rfl ?_
   rintro _ w ⟨vr76, er76, rfl, hm_, hr_⟩; refine ⟨_, rfl, ?_⟩; clear F; intro a F; have H := Hp.rowOut H 76 hm_ hr_; obtain ⟨Ar76, cr76, rfl⟩ := (H.row 76 rfl).form
   refine la F rfl (x_move (F.t 76 rfl)) fun a F => ?_
   refine la F rfl (x_extract (F.t 74 rfl) rfl) fun a F => ?_
   refine la F rfl (x_extract (F.t 74 rfl) rfl) fun a F => ?_
   refine la F rfl (x_assign (F.t 77 rfl)) fun a F => ?_
   refine la F rfl (x_assign (F.t 78 rfl)) fun a F => ?_
   refine wn (hK13 _ _ ?_)
   refine sr fun _ hK14 => ?_
   refine la F rfl (x_move (F.t 9 rfl)) fun a F => ?_
   refine la F rfl (x_assign (F.t 79 rfl)) fun a F => ?_
   refine la F rfl (x_assign rfl) fun a F => ?_
   refine wn (hK14 _ _ ?_)
   refine wp_ret ?_
   try simp only [Exit.then, Exit.inBlock]
   exact fin_ret F (res2 F rfl rfl rfl) ⟨_, by rw [encCE_yes hr] <;> rfl, H.mods, Hp.out H 76 rfl⟩
  have hk33_5 := hc33; try simp only [bL] at hc33
  refine wp_skip ?_
  refine hK9 _ _ ?_
  refine wp_seq_k fun _ hK15 => ?_
  refine sr fun _ hK16 => ?_
  refine la F rfl (x_faddr Tryz.underlying66 rfl ty61 (by decide) (F.t 1 rfl) rfl) fun a F => ?_
  refine la F rfl (x_load1 ty61 (F.t 41 rfl) (blk_cell (H.at 1 rfl) 0 rfl)) fun a F => ?_
  refine la F rfl (x_eql (F.t 42 rfl) rfl) fun a F => ?_
  refine wn (hK16 _ _ ?_)
  refine wp_cond_false ((F.t 43 rfl).trans (by rw [(by simpa using hk23_3 : (decide (c.kind = 3)) = false)])) ?_
  refine wp_skip ?_
  refine hK15 _ _ ?_
  refine sr fun _ hK17 => ?_
  rw [chgF_2 hk3 hc33] at H
  obtain ⟨Av, cv, rfl⟩ := (H.row 20 rfl).form
  refine la F rfl (x_move (F.t 5 rfl)) fun a F => ?_
  refine lp rfl ?_
  refine w_call F (x_enter Tryz.func34 (by kernel_rfl) rfl (by simp only [bM, F.t 75 rfl] <;> rfl)) (refEnc_at (Row.rd (ok' := fun k_ => (fun kb => (fun kb => (Value.slice (some ⟨b18, 0, none⟩) ([c.kind]).length ([c.kind]).length).ownBlock = some kb) kb ∨ (fun kb => (fun kb => kb = b27) kb ∨ kb = b29) kb) k_ ∨ (.slice Av (chgF c).length cv : Value).ownBlock = some k_) (H.row 20 rfl) (fun _ hk_ _ => .inl hk_) (fun _ hk_ => .inr hk_)) (encC_encR hr hb)) rfl rfl ?_
  rintro _ w ⟨vr76, er76, rfl, hm_, hr_⟩; refine ⟨_, rfl, ?_⟩; clear F; intro a F; have H := Hp.rowOut H 76 hm_ hr_; obtain ⟨Ar76, cr76, rfl⟩ := (H.row 76 rfl).form
  refine la F rfl (x_move (F.t 76 rfl)) fun a F => ?_
  refine la F rfl (x_extract (F.t 74 rfl) rfl) fun a F => ?_
  refine la F rfl (x_extract (F.t 74 rfl) rfl) fun a F => ?_
  refine la F rfl (x_assign (F.t 77 rfl)) fun a F => ?_
  refine la F rfl (x_assign (F.t 78 rfl)) fun a F => ?_
  refine wn (hK17 _ _ ?_)
  refine sr fun _ hK18 => ?_
  refine la F rfl (x_move (F.t 9 rfl)) fun a F => ?_
  refine la F rfl (x_assign (F.t 79 rfl)) fun a F => ?_
  refine la F rfl (x_assign rfl) fun a F => ?_
  refine wn (hK18 _ _ ?_)
  refine wp_ret ?_
  try simp only [Exit.then, Exit.inBlock]
  exact fin_ret F (res2 F rfl rfl rfl) ⟨_, by rw [encCE_yes hr] <;> rfl, H.mods, Hp.out H 76 rfl⟩
 have hk23_6 := hc23; try simp only [bL] at hc23
 have hk3 : c.kind = 3 := by omega
 refine wp_skip ?_
 refine hK7 _ _ ?_
 refine wp_seq_k fun _ hK19 => ?_
 refine sr fun _ hK20 => ?_
 refine la F rfl (x_faddr Tryz.underlying66 rfl ty61 (by decide) (F.t 1 rfl) rfl) fun a F => ?_
 refine la F rfl (x_load1 ty61 (F.t 31 rfl) (blk_cell (H.at 1 rfl) 0 rfl)) fun a F => ?_
 refine la F rfl (x_eql (F.t 32 rfl) rfl) fun a F => ?_
 refine wn (hK20 _ _ ?_)
 refine wp_cond_split (F.t 33 rfl) (fun hc33 => ?_) (fun hc33 => ?_)
 ·have hk33_7 := hc33; try simp only [bL] at hc33
  exact absurd hc33 (by omega)
 have hk33_8 := hc33; try simp only [bL] at hc33
 refine wp_skip ?_
 refine hK19 _ _ ?_
 refine wp_seq_k fun khK21 hK21 => ?_
 refine sr fun _ hK22 => ?_
 refine la F rfl (x_faddr Tryz.underlying66 rfl ty61 (by decide) (F.t 1 rfl) rfl) fun a F => ?_
 refine la F rfl (x_load1 ty61 (F.t 41 rfl) (blk_cell (H.at 1 rfl) 0 rfl)) fun a F => ?_
 refine la F rfl (x_eql (F.t 42 rfl) rfl) fun a F => ?_
 refine wn (hK22 _ _ ?_)
 refine wp_cond_true ((F.t 43 rfl).trans (by rw [(by simpa using hk23_6 : (decide (c.kind = 3)) = true)])) ?_
 refine sr fun _ hK23 => ?_
 refine la F rfl (x_faddr Tryz.underlying66 rfl ty64 (by decide) (F.t 1 rfl) rfl) fun a F => ?_
 refine la F rfl (x_loadn (cs := #[.string (strOfNums c.timer.name), .int .i64 c.timer.ver, .int .u64 c.timer.tick, .int .u64 c.timer.every, .slice Ac0 c.timer.steps.length cc0]) ty64 (F.t 44 rfl) rfl (blk_sub (H.at 1 rfl) 3 5 rfl)) fun a F => ?_
 refine lp rfl ?_
 refine w_alloc 6 F H rfl ty64 ?_
 clear F H; intro a w b6 F H
 refine lp rfl ?_
 refine w_storeA 6 H ty64 rfl (F.t 6 rfl) (F.t 45 rfl) rfl (by simp [Value.cells, Value.oneCell']) rfl ?_
 clear H; intro w H
 refine wn (hK23 _ _ ?_)
 refine sr fun _ hK24 => ?_
 refine la F rfl (x_faddr Tryz.underlying64 rfl ty62 (by decide) (F.t 6 rfl) rfl) fun a F => ?_
 refine la F rfl (x_load1 ty62 (F.t 47 rfl) (blk_cell (H.at 6 rfl) 4 rfl)) fun a F => ?_
 refine lp rfl ?_
 refine w_call F (x_enter Tryz.func70 (by kernel_rfl) rfl (by simp only [bM, F.t 48 rfl] <;> rfl)) (raenc_calls (xs := c.timer.steps) _ ((H.rd 900 rfl)) hb.timer.steps) rfl rfl ?_
 rintro _ w ⟨vr49, rfl, hm_, hr_⟩; refine ⟨_, rfl, ?_⟩; clear F; intro a F; have H := Hp.rowOut H 49 hm_ hr_; obtain ⟨Ar49, cr49, rfl⟩ := (H.row 49 rfl).form
 refine la F rfl (x_move (F.t 49 rfl)) fun a F => ?_
 refine la F rfl (x_extract (F.t 46 rfl) rfl) fun a F => ?_
 refine la F rfl (x_extract (F.t 46 rfl) rfl) fun a F => ?_
 refine la F rfl (x_assign (F.t 50 rfl)) fun a F => ?_
 have H := H.freeze 49 rfl (fun kb => (Value.slice Ar49 (encT c.timer.steps).length cr49).ownBlock = some kb) (fun kb => ⟨fun h => .inr h, fun h => h.resolve_left id⟩)
 refine la F rfl (x_assign (F.t 51 rfl)) fun a F => ?_
 refine wn (hK24 _ _ ?_)
 have hJr12 : ∀ a w, ∀ Ar60 : Option Addr, ∀ Ar64 : Option Addr, ∀ Ar68 : Option Addr, ∀ b55 : Nat, ∀ b72 : Nat, ∀ c55 : Nat, ∀ cr60 : Nat, ∀ cr64 : Nat, ∀ cr68 : Nat, ∀ v73 : Value, Fr 80 a [(5, v73)] → Hp (fun _ => False) w0 w [(900, .rd_ StE Ac0 c.timer.steps cc0 (fun k => k < w0.heap.size)), (1, .blk b1 (.cells #[.int .i64 c.kind, .string (strOfNums c.key), .string (strOfNums c.value), .string (strOfNums c.timer.name), .int .i64 c.timer.ver, .int .u64 c.timer.tick, .int .u64 c.timer.every, .slice Ac0 c.timer.steps.length cc0] 66 (0, 0))), (18, .rd_ (.int .u8) (some ⟨b18, 0, none⟩) ([c.kind]) ([c.kind]).length (fun kb => (Value.slice (some ⟨b18, 0, none⟩) ([c.kind]).length ([c.kind]).length).ownBlock = some kb)), (20, .row FE 57 v73 (([((1, [c.kind]) : Fld)]) ++ ([((4, c.timer.name) : Fld), ((5, (bI c.timer.ver)) : Fld), ((6, (bI c.timer.tick)) : Fld), ((7, (bI c.timer.every)) : Fld), ((8, (encT c.timer.steps)) : Fld)])) (fun kb => (fun kb => (Value.slice (some ⟨b18, 0, none⟩) ([c.kind]).length ([c.kind]).length).ownBlock = some kb) kb ∨ (fun kb => (fun kb => (fun kb => kb = b55) kb ∨ (fun kb => (Value.slice Ar60 (bI c.timer.ver).length cr60).ownBlock = some kb) kb ∨ (fun kb => (Value.slice Ar64 (bI c.timer.tick).length cr64).ownBlock = some kb) kb ∨ (fun kb => (Value.slice Ar68 (bI c.timer.every).length cr68).ownBlock = some kb) kb ∨ (fun kb => (Value.slice Ar49 (encT c.timer.steps).length cr49).ownBlock = some kb) kb) kb ∨ (Value.slice (some ⟨b72, 0, none⟩) ([((4, c.timer.name) : Fld), ((5, (bI c.timer.ver)) : Fld), ((6, (bI c.timer.tick)) : Fld), ((7, (bI c.timer.every)) : Fld), ((8, (encT c.timer.steps)) : Fld)]).length ([((4, c.timer.name) : Fld), ((5, (bI c.timer.ver)) : Fld), ((6, (bI c.timer.tick)) : Fld), ((7, (bI c.timer.every)) : Fld), ((8, (encT c.timer.steps)) : Fld)]).length).ownBlock = some kb) kb)), (6, .blk b6 (.cells #[.string (strOfNums c.timer.name), .int .i64 c.timer.ver, .int .u64 c.timer.tick, .int .u64 c.timer.every, .slice Ac0 c.timer.steps.length cc0] 64 (0, 0))), (49, .rd_ (.int .u8) Ar49 (encT c.timer.steps) cr49 (fun kb => (Value.slice Ar49 (encT c.timer.steps).length cr49).ownBlock = some kb)), (55, .rd_ (.int .u8) (some ⟨b55, 0, none⟩) c.timer.name c55 (fun kb => kb = b55)), (60, .rd_ (.int .u8) Ar60 (bI c.timer.ver) cr60 (fun kb => (Value.slice Ar60 (bI c.timer.ver).length cr60).ownBlock = some kb)), (64, .rd_ (.int .u8) Ar64 (bI c.timer.tick) cr64 (fun kb => (Value.slice Ar64 (bI c.timer.tick).length cr64).ownBlock = some kb)), (68, .rd_ (.int .u8) Ar68 (bI c.timer.every) cr68 (fun kb => (Value.slice Ar68 (bI c.timer.every).length cr68).ownBlock = some kb)), (72, .rd_ FE (some ⟨b72, 0, none⟩) ([((4, c.timer.name) : Fld), ((5, (bI c.timer.ver)) : Fld), ((6, (bI c.timer.tick)) : Fld), ((7, (bI c.timer.every)) : Fld), ((8, (encT c.timer.steps)) : Fld)]) ([((4, c.timer.name) : Fld), ((5, (bI c.timer.ver)) : Fld), ((6, (bI c.timer.tick)) : Fld), ((7, (bI c.timer.every)) : Fld), ((8, (encT c.timer.steps)) : Fld)]).length (fun kb => (fun kb => (fun kb => kb = b55) kb ∨ (fun kb => (Value.slice Ar60 (bI c.timer.ver).length cr60).ownBlock = some kb) kb ∨ (fun kb => (Value.slice Ar64 (bI c.timer.tick).length cr64).ownBlock = some kb) kb ∨ (fun kb => (Value.slice Ar68 (bI c.timer.every).length cr68).ownBlock = some kb) kb ∨ (fun kb => (Value.slice Ar49 (encT c.timer.steps).length cr49).ownBlock = some kb) kb) kb ∨ (Value.slice (some ⟨b72, 0, none⟩) ([((4, c.timer.name) : Fld), ((5, (bI c.timer.ver)) : Fld), ((6, (bI c.timer.tick)) : Fld), ((7, (bI c.timer.every)) : Fld), ((8, (encT c.timer.steps)) : Fld)]).length ([((4, c.timer.name) : Fld), ((5, (bI c.timer.ver)) : Fld), ((6, (bI c.timer.tick)) : Fld), ((7, (bI c.timer.every)) : Fld), ((8, (encT c.timer.steps)) : Fld)]).length).ownBlock = some kb))] → khK21 a w := by
  intro a w Ar60 Ar64 Ar68 b55 b72 c55 cr60 cr64 cr68 v73 F H
  refine hK21 a w ?_
  refine sr fun _ hK25 => ?_
  rw [chgF_3b hk3] at H
  obtain ⟨Av, cv, rfl⟩ := (H.row 20 rfl).form
  refine la F rfl (x_move (F.t 5 rfl)) fun a F => ?_
  refine lp rfl ?_
  refine w_call F (x_enter Tryz.func34 (by kernel_rfl) rfl (by simp only [bM, F.t 75 rfl] <;> rfl)) (refEnc_at (Row.rd (ok' := fun k_ => (fun kb => (fun kb => (Value.slice (some ⟨b18, 0, none⟩) ([c.kind]).length ([c.kind]).length).ownBlock = some kb) kb ∨ (fun kb => (fun kb => (fun kb => kb = b55) kb ∨ (fun kb => (Value.slice Ar60 (bI c.timer.ver).length cr60).ownBlock = some kb) kb ∨ (fun kb => (Value.slice Ar64 (bI c.timer.tick).length cr64).ownBlock = some kb) kb ∨ (fun kb => (Value.slice Ar68 (bI c.timer.every).length cr68).ownBlock = some kb) kb ∨ (fun kb => (Value.slice Ar49 (encT c.timer.steps).length cr49).ownBlock = some kb) kb) kb ∨ (Value.slice (some ⟨b72, 0, none⟩) ([((4, c.timer.name) : Fld), ((5, (bI c.timer.ver)) : Fld), ((6, (bI c.timer.tick)) : Fld), ((7, (bI c.timer.every)) : Fld), ((8, (encT c.timer.steps)) : Fld)]).length ([((4, c.timer.name) : Fld), ((5, (bI c.timer.ver)) : Fld), ((6, (bI c.timer.tick)) : Fld), ((7, (bI c.timer.every)) : Fld), ((8, (encT c.timer.steps)) : Fld)]).length).ownBlock = some kb) kb) k_ ∨ (.slice Av (chgF c).length cv : Value).ownBlock = some k_) (H.row 20 rfl) (fun _ hk_ _ => .inl hk_) (fun _ hk_ => .inr hk_)) (encC_encR hr hb)) rfl rfl ?_
  rintro _ w ⟨vr76, er76, rfl, hm_, hr_⟩; refine ⟨_, rfl, ?_⟩; clear F; intro a F; have H := Hp.rowOut H 76 hm_ hr_; obtain ⟨Ar76, cr76, rfl⟩ := (H.row 76 rfl).form
  refine la F rfl (x_move (F.t 76 rfl)) fun a F => ?_
  refine la F rfl (x_extract (F.t 74 rfl) rfl) fun a F => ?_
  refine la F rfl (x_extract (F.t 74 rfl) rfl) fun a F => ?_
  refine la F rfl (x_assign (F.t 77 rfl)) fun a F => ?_
  refine la F rfl (x_assign (F.t 78 rfl)) fun a F => ?_
  refine wn (hK25 _ _ ?_)
  refine sr fun _ hK26 => ?_
  refine la F rfl (x_move (F.t 9 rfl)) fun a F => ?_
  refine la F rfl (x_assign (F.t 79 rfl)) fun a F => ?_
  refine la F rfl (x_assign rfl) fun a F => ?_
  refine wn (hK26 _ _ ?_)
  refine wp_ret ?_
  try simp only [Exit.then, Exit.inBlock]
  exact fin_ret F (res2 F rfl rfl rfl) ⟨_, by rw [encCE_yes hr] <;> rfl, H.mods, Hp.out H 76 rfl⟩
 refine r_start [(6, .blk b6 (.cells #[.string (strOfNums c.timer.name), .int .i64 c.timer.ver, .int .u64 c.timer.tick, .int .u64 c.timer.every, .slice Ac0 c.timer.steps.length cc0] 64 (0, 0)))] (by kernel_rfl) H fun H => ?_
 have hS : SL [(6, .blk b6 (.cells #[.string (strOfNums c.timer.name), .int .i64 c.timer.ver, .int .u64 c.timer.tick, .int .u64 c.timer.every, .slice Ac0 c.timer.steps.length cc0] 64 (0, 0)))] _ := SL.of H (sub_cons (sub_nil _) 6 rfl)
 refine rT 0 F rfl (by kernel_rfl) pq rfl hS (fun w hS => x_move (F.t 5 rfl)) rfl fun a F => ?_
 refine rT 1 F rfl (by kernel_rfl) pq rfl hS (fun w hS => x_faddr Tryz.underlying64 rfl ty9 (by decide) (F.t 6 rfl) rfl) rfl fun a F => ?_
 refine rT 2 F rfl (by kernel_rfl) pq rfl hS (fun w hS => x_load1 ty9 (F.t 53 rfl) (blk_cell (SL.at_ hS 6 rfl) 0 rfl)) rfl fun a F => ?_
 refine rT 5 F rfl (by kernel_rfl) pq rfl hS (fun w hS => x_faddr Tryz.underlying64 rfl ty3 (by decide) (F.t 6 rfl) rfl) rfl fun a F => ?_
 refine rT 6 F rfl (by kernel_rfl) pq rfl hS (fun w hS => x_load1 ty3 (F.t 57 rfl) (blk_cell (SL.at_ hS 6 rfl) 1 rfl)) rfl fun a F => ?_
 refine rT 7 F rfl (by kernel_rfl) pq rfl hS (fun w hS => x_conv Tryz.underlying59 ⟨_, Tryz.underlying3⟩ (F.t 58 rfl) (wu64 (by have := (rightT_parts (rightC_3 hr hk3)); omega) (by have := (rightT_parts (rightC_3 hr hk3)); omega))) rfl fun a F => ?_
 refine rT 10 F rfl (by kernel_rfl) pq rfl hS (fun w hS => x_faddr Tryz.underlying64 rfl ty59 (by decide) (F.t 6 rfl) rfl) rfl fun a F => ?_
 refine rT 11 F rfl (by kernel_rfl) pq rfl hS (fun w hS => x_load1 ty59 (F.t 62 rfl) (blk_cell (SL.at_ hS 6 rfl) 2 rfl)) rfl fun a F => ?_
 refine rT 14 F rfl (by kernel_rfl) pq rfl hS (fun w hS => x_faddr Tryz.underlying64 rfl ty59 (by decide) (F.t 6 rfl) rfl) rfl fun a F => ?_
 refine rT 15 F rfl (by kernel_rfl) pq rfl hS (fun w hS => x_load1 ty59 (F.t 66 rfl) (blk_cell (SL.at_ hS 6 rfl) 3 rfl)) rfl fun a F => ?_
 refine rT 18 F rfl (by kernel_rfl) pq rfl hS (fun w hS => x_move (F.t 7 rfl)) rfl fun a F => ?_
 refine rT 19 F rfl (by kernel_rfl) pq rfl hS (fun w hS => x_buildS (cells := #[.int .i64 8, .slice Ar49 (encT c.timer.steps).length cr49]) (places := #[(0, 1), (1, 1)]) Tryz.underlying57 ty57 (by kernel_rfl) (by simp only [bM, F.t 70 rfl] <;> rfl) rfl) rfl fun a F => ?_
 refine r_do2 3 8 rfl rfl (by kernel_rfl) rfl rfl rfl rfl ?_ ?_
 ·
  refine w_s2b 55 (xs := c.timer.name) F H rfl Tryz.underlying9 Tryz.underlying27 Tryz.underlying5 (F.t 54 rfl) hb.timer.name (by have := (rightT_parts (rightC_3 hr hk3)); omega) ?_
  clear F H; intro a w b55 c55 hb55_ F H
  refine aN (SL.of H (sub_cons (sub_nil _) 6 rfl)) fun hS => ?_
  refine rT 4 F rfl (by kernel_rfl) pq rfl hS (fun w hS => x_buildS (cells := #[.int .i64 4, .slice (some ⟨b55, 0, none⟩) c.timer.name.length c55]) (places := #[(0, 1), (1, 1)]) Tryz.underlying57 ty57 (by kernel_rfl) (by simp only [bM, F.t 55 rfl] <;> rfl) rfl) rfl fun a F => ?_
  refine r_do 8 rfl (by kernel_rfl) rfl rfl ?_
  refine w_call F (x_enter Tryz.func32 (by kernel_rfl) rfl (by simp only [bM, F.t 59 rfl] <;> rfl)) (rbI_calls _ (by have := (rightT_parts (rightC_3 hr hk3)); exact ⟨by omega, by omega⟩)) rfl rfl ?_
  rintro _ w ⟨vr60, rfl, hm_, hr_⟩; refine ⟨_, rfl, ?_⟩; clear F; intro a F; have H := Hp.rowOut H 60 hm_ hr_; obtain ⟨Ar60, cr60, rfl⟩ := (H.row 60 rfl).form
  refine aN (SL.of H (sub_cons (sub_nil _) 6 rfl)) fun hS => ?_
  have H := H.freeze 60 rfl (fun kb => (Value.slice Ar60 (bI c.timer.ver).length cr60).ownBlock = some kb) (fun kb => ⟨fun h => .inr h, fun h => h.resolve_left id⟩)
  refine rT 9 F rfl (by kernel_rfl) pq rfl hS (fun w hS => x_buildS (cells := #[.int .i64 5, .slice Ar60 (bI c.timer.ver).length cr60]) (places := #[(0, 1), (1, 1)]) Tryz.underlying57 ty57 (by kernel_rfl) (by simp only [bM, F.t 60 rfl] <;> rfl) rfl) rfl fun a F => ?_
  refine r_do 12 rfl (by kernel_rfl) rfl rfl ?_
  refine w_call F (x_enter Tryz.func32 (by kernel_rfl) rfl (by simp only [bM, F.t 63 rfl] <;> rfl)) (rbI_calls _ hb.timer.tick) rfl rfl ?_
  rintro _ w ⟨vr64, rfl, hm_, hr_⟩; refine ⟨_, rfl, ?_⟩; clear F; intro a F; have H := Hp.rowOut H 64 hm_ hr_; obtain ⟨Ar64, cr64, rfl⟩ := (H.row 64 rfl).form
  refine aN (SL.of H (sub_cons (sub_nil _) 6 rfl)) fun hS => ?_
  have H := H.freeze 64 rfl (fun kb => (Value.slice Ar64 (bI c.timer.tick).length cr64).ownBlock = some kb) (fun kb => ⟨fun h => .inr h, fun h => h.resolve_left id⟩)
  refine rT 13 F rfl (by kernel_rfl) pq rfl hS (fun w hS => x_buildS (cells := #[.int .i64 6, .slice Ar64 (bI c.timer.tick).length cr64]) (places := #[(0, 1), (1, 1)]) Tryz.underlying57 ty57 (by kernel_rfl) (by simp only [bM, F.t 64 rfl] <;> rfl) rfl) rfl fun a F => ?_
  refine r_do 16 rfl (by kernel_rfl) rfl rfl ?_
  refine w_call F (x_enter Tryz.func32 (by kernel_rfl) rfl (by simp only [bM, F.t 67 rfl] <;> rfl)) (rbI_calls _ hb.timer.every) rfl rfl ?_
  rintro _ w ⟨vr68, rfl, hm_, hr_⟩; refine ⟨_, rfl, ?_⟩; clear F; intro a F; have H := Hp.rowOut H 68 hm_ hr_; obtain ⟨Ar68, cr68, rfl⟩ := (H.row 68 rfl).form
  refine aN (SL.of H (sub_cons (sub_nil _) 6 rfl)) fun hS => ?_
  have H := H.freeze 68 rfl (fun kb => (Value.slice Ar68 (bI c.timer.every).length cr68).ownBlock = some kb) (fun kb => ⟨fun h => .inr h, fun h => h.resolve_left id⟩)
  refine rT 17 F rfl (by kernel_rfl) pq rfl hS (fun w hS => x_buildS (cells := #[.int .i64 7, .slice Ar68 (bI c.timer.every).length cr68]) (places := #[(0, 1), (1, 1)]) Tryz.underlying57 ty57 (by kernel_rfl) (by simp only [bM, F.t 68 rfl] <;> rfl) rfl) rfl fun a F => ?_
  refine r_do 20 rfl (by kernel_rfl) rfl rfl ?_
  refine w_litE 72 FE ([((4, c.timer.name) : Fld), ((5, (bI c.timer.ver)) : Fld), ((6, (bI c.timer.tick)) : Fld), ((7, (bI c.timer.every)) : Fld), ((8, (encT c.timer.steps)) : Fld)]) #[.int .i64 4, .slice (some ⟨b55, 0, none⟩) c.timer.name.length c55, .int .i64 5, .slice Ar60 (bI c.timer.ver).length cr60, .int .i64 6, .slice Ar64 (bI c.timer.tick).length cr64, .int .i64 7, .slice Ar68 (bI c.timer.every).length cr68, .int .i64 8, .slice Ar49 (encT c.timer.steps).length cr49] (fun kb => (fun kb => kb = b55) kb ∨ (fun kb => (Value.slice Ar60 (bI c.timer.ver).length cr60).ownBlock = some kb) kb ∨ (fun kb => (Value.slice Ar64 (bI c.timer.tick).length cr64).ownBlock = some kb) kb ∨ (fun kb => (Value.slice Ar68 (bI c.timer.every).length cr68).ownBlock = some kb) kb ∨ (fun kb => (Value.slice Ar49 (encT c.timer.steps).length cr49).ownBlock = some kb) kb) F H rfl Tryz.underlying60 ty57 (by simp only [bM, F.t 56 rfl, F.t 61 rfl, F.t 65 rfl, F.t 69 rfl, F.t 71 rfl] <;> rfl) rfl (by decide) (by decide) (by kernel_rfl) ((((((Elems.single (fld_mk (f := ((4, c.timer.name) : Fld)) (((H.rd 55 rfl)).move (fun _ _ _ => rfl) (fun k h _ => .inl h)))).append (Elems.single (fld_mk (f := ((5, (bI c.timer.ver)) : Fld)) (((H.rd 60 rfl)).move (fun _ _ _ => rfl) (fun k h _ => .inr (.inl h)))))).append (Elems.single (fld_mk (f := ((6, (bI c.timer.tick)) : Fld)) (((H.rd 64 rfl)).move (fun _ _ _ => rfl) (fun k h _ => .inr (.inr (.inl h))))))).append (Elems.single (fld_mk (f := ((7, (bI c.timer.every)) : Fld)) (((H.rd 68 rfl)).move (fun _ _ _ => rfl) (fun k h _ => .inr (.inr (.inr (.inl h)))))))).append (Elems.single (fld_mk (f := ((8, (encT c.timer.steps)) : Fld)) (((H.rd 49 rfl)).move (fun _ _ _ => rfl) (fun k h _ => .inr (.inr (.inr (.inr (h)))))))))) (fun kb h => h.elim (fun h => ⟨55, _, rfl, h⟩) (fun h => h.elim (fun h => ⟨60, _, rfl, h⟩) (fun h => h.elim (fun h => ⟨64, _, rfl, h⟩) (fun h => h.elim (fun h => ⟨68, _, rfl, h⟩) (fun h => ⟨49, _, rfl, h⟩))))) ?_
  clear F H; intro a w b72 F H
  refine aN (SL.of H (sub_cons (sub_nil _) 6 rfl)) fun hS => ?_
  have H := H.freeze 72 rfl (fun kb => (fun kb => (fun kb => kb = b55) kb ∨ (fun kb => (Value.slice Ar60 (bI c.timer.ver).length cr60).ownBlock = some kb) kb ∨ (fun kb => (Value.slice Ar64 (bI c.timer.tick).length cr64).ownBlock = some kb) kb ∨ (fun kb => (Value.slice Ar68 (bI c.timer.every).length cr68).ownBlock = some kb) kb ∨ (fun kb => (Value.slice Ar49 (encT c.timer.steps).length cr49).ownBlock = some kb) kb) kb ∨ (Value.slice (some ⟨b72, 0, none⟩) ([((4, c.timer.name) : Fld), ((5, (bI c.timer.ver)) : Fld), ((6, (bI c.timer.tick)) : Fld), ((7, (bI c.timer.every)) : Fld), ((8, (encT c.timer.steps)) : Fld)]).length ([((4, c.timer.name) : Fld), ((5, (bI c.timer.ver)) : Fld), ((6, (bI c.timer.tick)) : Fld), ((7, (bI c.timer.every)) : Fld), ((8, (encT c.timer.steps)) : Fld)]).length).ownBlock = some kb) (fun kb => Iff.rfl)
  refine r_do 21 rfl (by kernel_rfl) rfl rfl ?_
  refine w_append 20 72 (xs := ([((1, [c.kind]) : Fld)])) (ys := ([((4, c.timer.name) : Fld), ((5, (bI c.timer.ver)) : Fld), ((6, (bI c.timer.tick)) : Fld), ((7, (bI c.timer.every)) : Fld), ((8, (encT c.timer.steps)) : Fld)])) F H rfl Tryz.underlying60 ty57 rfl rfl rfl rfl ((H.rd 72 rfl)) oI (F.t 52 rfl) (F.t 72 rfl) (by simp only [lN] at *; omega) (by simp only [lN, maxLen] at *; omega) (fun kb => (fun kb => (Value.slice (some ⟨b18, 0, none⟩) ([c.kind]).length ([c.kind]).length).ownBlock = some kb) kb ∨ (fun kb => (fun kb => (fun kb => kb = b55) kb ∨ (fun kb => (Value.slice Ar60 (bI c.timer.ver).length cr60).ownBlock = some kb) kb ∨ (fun kb => (Value.slice Ar64 (bI c.timer.tick).length cr64).ownBlock = some kb) kb ∨ (fun kb => (Value.slice Ar68 (bI c.timer.every).length cr68).ownBlock = some kb) kb ∨ (fun kb => (Value.slice Ar49 (encT c.timer.steps).length cr49).ownBlock = some kb) kb) kb ∨ (Value.slice (some ⟨b72, 0, none⟩) ([((4, c.timer.name) : Fld), ((5, (bI c.timer.ver)) : Fld), ((6, (bI c.timer.tick)) : Fld), ((7, (bI c.timer.every)) : Fld), ((8, (encT c.timer.steps)) : Fld)]).length ([((4, c.timer.name) : Fld), ((5, (bI c.timer.ver)) : Fld), ((6, (bI c.timer.tick)) : Fld), ((7, (bI c.timer.every)) : Fld), ((8, (encT c.timer.steps)) : Fld)]).length).ownBlock = some kb) kb) (fun w' v' h => h) (by rintro k_ (hk_ | hk_); exact .inl hk_; exact .inr hk_) ?_
  clear F H; intro a w v73 F H
  refine aN (SL.of H (sub_cons (sub_nil _) 6 rfl)) fun hS => ?_
  refine rT 22 F rfl (by kernel_rfl) pq rfl hS (fun w hS => x_assign (F.t 73 rfl)) rfl fun a F => ?_
  refine r_end (by kernel_rfl) ?_; clear hS
  exact hJr12 _ _ _ _ _ _ _ _ _ _ _ _ (F.bare.add F 5 rfl) (H.sub _ (sub_cons (sub_cons (sub_cons (sub_cons (sub_cons (sub_cons (sub_cons (sub_cons (sub_cons (sub_cons (sub_cons (sub_nil _) 72 rfl) 68 rfl) 64 rfl) 60 rfl) 55 rfl) 49 rfl) 6 rfl) 20 rfl) 18 rfl) 1 rfl) 900 rfl))
 ·
  refine w_call F (x_enter Tryz.func32 (by kernel_rfl) rfl (by simp only [bM, F.t 59 rfl] <;> rfl)) (rbI_calls _ (by have := (rightT_parts (rightC_3 hr hk3)); exact ⟨by omega, by omega⟩)) rfl rfl ?_
  rintro _ w ⟨vr60, rfl, hm_, hr_⟩; refine ⟨_, rfl, ?_⟩; clear F; intro a F; have H := Hp.rowOut H 60 hm_ hr_; obtain ⟨Ar60, cr60, rfl⟩ := (H.row 60 rfl).form
  refine aN (SL.of H (sub_cons (sub_nil _) 6 rfl)) fun hS => ?_
  have H := H.freeze 60 rfl (fun kb => (Value.slice Ar60 (bI c.timer.ver).length cr60).ownBlock = some kb) (fun kb => ⟨fun h => .inr h, fun h => h.resolve_left id⟩)
  refine rT 9 F rfl (by kernel_rfl) pq rfl hS (fun w hS => x_buildS (cells := #[.int .i64 5, .slice Ar60 (bI c.timer.ver).length cr60]) (places := #[(0, 1), (1, 1)]) Tryz.underlying57 ty57 (by kernel_rfl) (by simp only [bM, F.t 60 rfl] <;> rfl) rfl) rfl fun a F => ?_
  refine r_do2 3 12 rfl rfl (by kernel_rfl) rfl rfl rfl rfl ?_ ?_
  ·
   refine w_s2b 55 (xs := c.timer.name) F H rfl Tryz.underlying9 Tryz.underlying27 Tryz.underlying5 (F.t 54 rfl) hb.timer.name (by have := (rightT_parts (rightC_3 hr hk3)); omega) ?_
   clear F H; intro a w b55 c55 hb55_ F H
   refine aN (SL.of H (sub_cons (sub_nil _) 6 rfl)) fun hS => ?_
   refine rT 4 F rfl (by kernel_rfl) pq rfl hS (fun w hS => x_buildS (cells := #[.int .i64 4, .slice (some ⟨b55, 0, none⟩) c.timer.name.length c55]) (places := #[(0, 1), (1, 1)]) Tryz.underlying57 ty57 (by kernel_rfl) (by simp only [bM, F.t 55 rfl] <;> rfl) rfl) rfl fun a F => ?_
   refine r_do 12 rfl (by kernel_rfl) rfl rfl ?_
   refine w_call F (x_enter Tryz.func32 (by kernel_rfl) rfl (by simp only [bM, F.t 63 rfl] <;> rfl)) (rbI_calls _ hb.timer.tick) rfl rfl ?_
   rintro _ w ⟨vr64, rfl, hm_, hr_⟩; refine ⟨_, rfl, ?_⟩; clear F; intro a F; have H := Hp.rowOut H 64 hm_ hr_; obtain ⟨Ar64, cr64, rfl⟩ := (H.row 64 rfl).form
   refine aN (SL.of H (sub_cons (sub_nil _) 6 rfl)) fun hS => ?_
   have H := H.freeze 64 rfl (fun kb => (Value.slice Ar64 (bI c.timer.tick).length cr64).ownBlock = some kb) (fun kb => ⟨fun h => .inr h, fun h => h.resolve_left id⟩)
   refine rT 13 F rfl (by kernel_rfl) pq rfl hS (fun w hS => x_buildS (cells := #[.int .i64 6, .slice Ar64 (bI c.timer.tick).length cr64]) (places := #[(0, 1), (1, 1)]) Tryz.underlying57 ty57 (by kernel_rfl) (by simp only [bM, F.t 64 rfl] <;> rfl) rfl) rfl fun a F => ?_
   refine r_do 16 rfl (by kernel_rfl) rfl rfl ?_
   refine w_call F (x_enter Tryz.func32 (by kernel_rfl) rfl (by simp only [bM, F.t 67 rfl] <;> rfl)) (rbI_calls _ hb.timer.every) rfl rfl ?_
   rintro _ w ⟨vr68, rfl, hm_, hr_⟩; refine ⟨_, rfl, ?_⟩; clear F; intro a F; have H := Hp.rowOut H 68 hm_ hr_; obtain ⟨Ar68, cr68, rfl⟩ := (H.row 68 rfl).form
   refine aN (SL.of H (sub_cons (sub_nil _) 6 rfl)) fun hS => ?_
   have H := H.freeze 68 rfl (fun kb => (Value.slice Ar68 (bI c.timer.every).length cr68).ownBlock = some kb) (fun kb => ⟨fun h => .inr h, fun h => h.resolve_left id⟩)
   refine rT 17 F rfl (by kernel_rfl) pq rfl hS (fun w hS => x_buildS (cells := #[.int .i64 7, .slice Ar68 (bI c.timer.every).length cr68]) (places := #[(0, 1), (1, 1)]) Tryz.underlying57 ty57 (by kernel_rfl) (by simp only [bM, F.t 68 rfl] <;> rfl) rfl) rfl fun a F => ?_
   refine r_do 20 rfl (by kernel_rfl) rfl rfl ?_
   refine w_litE 72 FE ([((4, c.timer.name) : Fld), ((5, (bI c.timer.ver)) : Fld), ((6, (bI c.timer.tick)) : Fld), ((7, (bI c.timer.every)) : Fld), ((8, (encT c.timer.steps)) : Fld)]) #[.int .i64 4, .slice (some ⟨b55, 0, none⟩) c.timer.name.length c55, .int .i64 5, .slice Ar60 (bI c.timer.ver).length cr60, .int .i64 6, .slice Ar64 (bI c.timer.tick).length cr64, .int .i64 7, .slice Ar68 (bI c.timer.every).length cr68, .int .i64 8, .slice Ar49 (encT c.timer.steps).length cr49] (fun kb => (fun kb => kb = b55) kb ∨ (fun kb => (Value.slice Ar60 (bI c.timer.ver).length cr60).ownBlock = some kb) kb ∨ (fun kb => (Value.slice Ar64 (bI c.timer.tick).length cr64).ownBlock = some kb) kb ∨ (fun kb => (Value.slice Ar68 (bI c.timer.every).length cr68).ownBlock = some kb) kb ∨ (fun kb => (Value.slice Ar49 (encT c.timer.steps).length cr49).ownBlock = some kb) kb) F H rfl Tryz.underlying60 ty57 (by simp only [bM, F.t 56 rfl, F.t 61 rfl, F.t 65 rfl, F.t 69 rfl, F.t 71 rfl] <;> rfl) rfl (by decide) (by decide) (by kernel_rfl) ((((((Elems.single (fld_mk (f := ((4, c.timer.name) : Fld)) (((H.rd 55 rfl)).move (fun _ _ _ => rfl) (fun k h _ => .inl h)))).append (Elems.single (fld_mk (f := ((5, (bI c.timer.ver)) : Fld)) (((H.rd 60 rfl)).move (fun _ _ _ => rfl) (fun k h _ => .inr (.inl h)))))).append (Elems.single (fld_mk (f := ((6, (bI c.timer.tick)) : Fld)) (((H.rd 64 rfl)).move (fun _ _ _ => rfl) (fun k h _ => .inr (.inr (.inl h))))))).append (Elems.single (fld_mk (f := ((7, (bI c.timer.every)) : Fld)) (((H.rd 68 rfl)).move (fun _ _ _ => rfl) (fun k h _ => .inr (.inr (.inr (.inl h)))))))).append (Elems.single (fld_mk (f := ((8, (encT c.timer.steps)) : Fld)) (((H.rd 49 rfl)).move (fun _ _ _ => rfl) (fun k h _ => .inr (.inr (.inr (.inr (h)))))))))) (fun kb h => h.elim (fun h => ⟨55, _, rfl, h⟩) (fun h => h.elim (fun h => ⟨60, _, rfl, h⟩) (fun h => h.elim (fun h => ⟨64, _, rfl, h⟩) (fun h => h.elim (fun h => ⟨68, _, rfl, h⟩) (fun h => ⟨49, _, rfl, h⟩))))) ?_
   clear F H; intro a w b72 F H
   refine aN (SL.of H (sub_cons (sub_nil _) 6 rfl)) fun hS => ?_
   have H := H.freeze 72 rfl (fun kb => (fun kb => (fun kb => kb = b55) kb ∨ (fun kb => (Value.slice Ar60 (bI c.timer.ver).length cr60).ownBlock = some kb) kb ∨ (fun kb => (Value.slice Ar64 (bI c.timer.tick).length cr64).ownBlock = some kb) kb ∨ (fun kb => (Value.slice Ar68 (bI c.timer.every).length cr68).ownBlock = some kb) kb ∨ (fun kb => (Value.slice Ar49 (encT c.timer.steps).length cr49).ownBlock = some kb) kb) kb ∨ (Value.slice (some ⟨b72, 0, none⟩) ([((4, c.timer.name) : Fld), ((5, (bI c.timer.ver)) : Fld), ((6, (bI c.timer.tick)) : Fld), ((7, (bI c.timer.every)) : Fld), ((8, (encT c.timer.steps)) : Fld)]).length ([((4, c.timer.name) : Fld), ((5, (bI c.timer.ver)) : Fld), ((6, (bI c.timer.tick)) : Fld), ((7, (bI c.timer.every)) : Fld), ((8, (encT c.timer.steps)) : Fld)]).length).ownBlock = some kb) (fun kb => Iff.rfl)
   refine r_do 21 rfl (by kernel_rfl) rfl rfl ?_
   refine w_append 20 72 (xs := ([((1, [c.kind]) : Fld)])) (ys := ([((4, c.timer.name) : Fld), ((5, (bI c.timer.ver)) : Fld), ((6, (bI c.timer.tick)) : Fld), ((7, (bI c.timer.every)) : Fld), ((8, (encT c.timer.steps)) : Fld)])) F H rfl Tryz.underlying60 ty57 rfl rfl rfl rfl ((H.rd 72 rfl)) oI (F.t 52 rfl) (F.t 72 rfl) (by simp only [lN] at *; omega) (by simp only [lN, maxLen] at *; omega) (fun kb => (fun kb => (Value.slice (some ⟨b18, 0, none⟩) ([c.kind]).length ([c.kind]).length).ownBlock = some kb) kb ∨ (fun kb => (fun kb => (fun kb => kb = b55) kb ∨ (fun kb => (Value.slice Ar60 (bI c.timer.ver).length cr60).ownBlock = some kb) kb ∨ (fun kb => (Value.slice Ar64 (bI c.timer.tick).length cr64).ownBlock = some kb) kb ∨ (fun kb => (Value.slice Ar68 (bI c.timer.every).length cr68).ownBlock = some kb) kb ∨ (fun kb => (Value.slice Ar49 (encT c.timer.steps).length cr49).ownBlock = some kb) kb) kb ∨ (Value.slice (some ⟨b72, 0, none⟩) ([((4, c.timer.name) : Fld), ((5, (bI c.timer.ver)) : Fld), ((6, (bI c.timer.tick)) : Fld), ((7, (bI c.timer.every)) : Fld), ((8, (encT c.timer.steps)) : Fld)]).length ([((4, c.timer.name) : Fld), ((5, (bI c.timer.ver)) : Fld), ((6, (bI c.timer.tick)) : Fld), ((7, (bI c.timer.every)) : Fld), ((8, (encT c.timer.steps)) : Fld)]).length).ownBlock = some kb) kb) (fun w' v' h => h) (by rintro k_ (hk_ | hk_); exact .inl hk_; exact .inr hk_) ?_
   clear F H; intro a w v73 F H
   refine aN (SL.of H (sub_cons (sub_nil _) 6 rfl)) fun hS => ?_
   refine rT 22 F rfl (by kernel_rfl) pq rfl hS (fun w hS => x_assign (F.t 73 rfl)) rfl fun a F => ?_
   refine r_end (by kernel_rfl) ?_; clear hS
   exact hJr12 _ _ _ _ _ _ _ _ _ _ _ _ (F.bare.add F 5 rfl) (H.sub _ (sub_cons (sub_cons (sub_cons (sub_cons (sub_cons (sub_cons (sub_cons (sub_cons (sub_cons (sub_cons (sub_cons (sub_nil _) 72 rfl) 68 rfl) 64 rfl) 60 rfl) 55 rfl) 49 rfl) 6 rfl) 20 rfl) 18 rfl) 1 rfl) 900 rfl))
  ·
   refine w_call F (x_enter Tryz.func32 (by kernel_rfl) rfl (by simp only [bM, F.t 63 rfl] <;> rfl)) (rbI_calls _ hb.timer.tick) rfl rfl ?_
   rintro _ w ⟨vr64, rfl, hm_, hr_⟩; refine ⟨_, rfl, ?_⟩; clear F; intro a F; have H := Hp.rowOut H 64 hm_ hr_; obtain ⟨Ar64, cr64, rfl⟩ := (H.row 64 rfl).form
   refine aN (SL.of H (sub_cons (sub_nil _) 6 rfl)) fun hS => ?_
   have H := H.freeze 64 rfl (fun kb => (Value.slice Ar64 (bI c.timer.tick).length cr64).ownBlock = some kb) (fun kb => ⟨fun h => .inr h, fun h => h.resolve_left id⟩)
   refine rT 13 F rfl (by kernel_rfl) pq rfl hS (fun w hS => x_buildS (cells := #[.int .i64 6, .slice Ar64 (bI c.timer.tick).length cr64]) (places := #[(0, 1), (1, 1)]) Tryz.underlying57 ty57 (by kernel_rfl) (by simp only [bM, F.t 64 rfl] <;> rfl) rfl) rfl fun a F => ?_
   refine r_do2 3 16 rfl rfl (by kernel_rfl) rfl rfl rfl rfl ?_ ?_
   ·
    refine w_s2b 55 (xs := c.timer.name) F H rfl Tryz.underlying9 Tryz.underlying27 Tryz.underlying5 (F.t 54 rfl) hb.timer.name (by have := (rightT_parts (rightC_3 hr hk3)); omega) ?_
    clear F H; intro a w b55 c55 hb55_ F H
    refine aN (SL.of H (sub_cons (sub_nil _) 6 rfl)) fun hS => ?_
    refine rT 4 F rfl (by kernel_rfl) pq rfl hS (fun w hS => x_buildS (cells := #[.int .i64 4, .slice (some ⟨b55, 0, none⟩) c.timer.name.length c55]) (places := #[(0, 1), (1, 1)]) Tryz.underlying57 ty57 (by kernel_rfl) (by simp only [bM, F.t 55 rfl] <;> rfl) rfl) rfl fun a F => ?_
    refine r_do 16 rfl (by kernel_rfl) rfl rfl ?_
    refine w_call F (x_enter Tryz.func32 (by kernel_rfl) rfl (by simp only [bM, F.t 67 rfl] <;> rfl)) (rbI_calls _ hb.timer.every) rfl rfl ?_
    rintro _ w ⟨vr68, rfl, hm_, hr_⟩; refine ⟨_, rfl, ?_⟩; clear F; intro a F; have H := Hp.rowOut H 68 hm_ hr_; obtain ⟨Ar68, cr68, rfl⟩ := (H.row 68 rfl).form
    refine aN (SL.of H (sub_cons (sub_nil _) 6 rfl)) fun hS => ?_
    have H := H.freeze 68 rfl (fun kb => (Value.slice Ar68 (bI c.timer.every).length cr68).ownBlock = some kb) (fun kb => ⟨fun h => .inr h, fun h => h.resolve_left id⟩)
    refine rT 17 F rfl (by kernel_rfl) pq rfl hS (fun w hS => x_buildS (cells := #[.int .i64 7, .slice Ar68 (bI c.timer.every).length cr68]) (places := #[(0, 1), (1, 1)]) Tryz.underlying57 ty57 (by kernel_rfl) (by simp only [bM, F.t 68 rfl] <;> rfl) rfl) rfl fun a F => ?_
    refine r_do 20 rfl (by kernel_rfl) rfl rfl ?_
    refine w_litE 72 FE ([((4, c.timer.name) : Fld), ((5, (bI c.timer.ver)) : Fld), ((6, (bI c.timer.tick)) : Fld), ((7, (bI c.timer.every)) : Fld), ((8, (encT c.timer.steps)) : Fld)]) #[.int .i64 4, .slice (some ⟨b55, 0, none⟩) c.timer.name.length c55, .int .i64 5, .slice Ar60 (bI c.timer.ver).length cr60, .int .i64 6, .slice Ar64 (bI c.timer.tick).length cr64, .int .i64 7, .slice Ar68 (bI c.timer.every).length cr68, .int .i64 8, .slice Ar49 (encT c.timer.steps).length cr49] (fun kb => (fun kb => kb = b55) kb ∨ (fun kb => (Value.slice Ar60 (bI c.timer.ver).length cr60).ownBlock = some kb) kb ∨ (fun kb => (Value.slice Ar64 (bI c.timer.tick).length cr64).ownBlock = some kb) kb ∨ (fun kb => (Value.slice Ar68 (bI c.timer.every).length cr68).ownBlock = some kb) kb ∨ (fun kb => (Value.slice Ar49 (encT c.timer.steps).length cr49).ownBlock = some kb) kb) F H rfl Tryz.underlying60 ty57 (by simp only [bM, F.t 56 rfl, F.t 61 rfl, F.t 65 rfl, F.t 69 rfl, F.t 71 rfl] <;> rfl) rfl (by decide) (by decide) (by kernel_rfl) ((((((Elems.single (fld_mk (f := ((4, c.timer.name) : Fld)) (((H.rd 55 rfl)).move (fun _ _ _ => rfl) (fun k h _ => .inl h)))).append (Elems.single (fld_mk (f := ((5, (bI c.timer.ver)) : Fld)) (((H.rd 60 rfl)).move (fun _ _ _ => rfl) (fun k h _ => .inr (.inl h)))))).append (Elems.single (fld_mk (f := ((6, (bI c.timer.tick)) : Fld)) (((H.rd 64 rfl)).move (fun _ _ _ => rfl) (fun k h _ => .inr (.inr (.inl h))))))).append (Elems.single (fld_mk (f := ((7, (bI c.timer.every)) : Fld)) (((H.rd 68 rfl)).move (fun _ _ _ => rfl) (fun k h _ => .inr (.inr (.inr (.inl h)))))))).append (Elems.single (fld_mk (f := ((8, (encT c.timer.steps)) : Fld)) (((H.rd 49 rfl)).move (fun _ _ _ => rfl) (fun k h _ => .inr (.inr (.inr (.inr (h)))))))))) (fun kb h => h.elim (fun h => ⟨55, _, rfl, h⟩) (fun h => h.elim (fun h => ⟨60, _, rfl, h⟩) (fun h => h.elim (fun h => ⟨64, _, rfl, h⟩) (fun h => h.elim (fun h => ⟨68, _, rfl, h⟩) (fun h => ⟨49, _, rfl, h⟩))))) ?_
    clear F H; intro a w b72 F H
    refine aN (SL.of H (sub_cons (sub_nil _) 6 rfl)) fun hS => ?_
    have H := H.freeze 72 rfl (fun kb => (fun kb => (fun kb => kb = b55) kb ∨ (fun kb => (Value.slice Ar60 (bI c.timer.ver).length cr60).ownBlock = some kb) kb ∨ (fun kb => (Value.slice Ar64 (bI c.timer.tick).length cr64).ownBlock = some kb) kb ∨ (fun kb => (Value.slice Ar68 (bI c.timer.every).length cr68).ownBlock = some kb) kb ∨ (fun kb => (Value.slice Ar49 (encT c.timer.steps).length cr49).ownBlock = some kb) kb) kb ∨ (Value.slice (some ⟨b72, 0, none⟩) ([((4, c.timer.name) : Fld), ((5, (bI c.timer.ver)) : Fld), ((6, (bI c.timer.tick)) : Fld), ((7, (bI c.timer.every)) : Fld), ((8, (encT c.timer.steps)) : Fld)]).length ([((4, c.timer.name) : Fld), ((5, (bI c.timer.ver)) : Fld), ((6, (bI c.timer.tick)) : Fld), ((7, (bI c.timer.every)) : Fld), ((8, (encT c.timer.steps)) : Fld)]).length).ownBlock = some kb) (fun kb => Iff.rfl)
    refine r_do 21 rfl (by kernel_rfl) rfl rfl ?_
    refine w_append 20 72 (xs := ([((1, [c.kind]) : Fld)])) (ys := ([((4, c.timer.name) : Fld), ((5, (bI c.timer.ver)) : Fld), ((6, (bI c.timer.tick)) : Fld), ((7, (bI c.timer.every)) : Fld), ((8, (encT c.timer.steps)) : Fld)])) F H rfl Tryz.underlying60 ty57 rfl rfl rfl rfl ((H.rd 72 rfl)) oI (F.t 52 rfl) (F.t 72 rfl) (by simp only [lN] at *; omega) (by simp only [lN, maxLen] at *; omega) (fun kb => (fun kb => (Value.slice (some ⟨b18, 0, none⟩) ([c.kind]).length ([c.kind]).length).ownBlock = some kb) kb ∨ (fun kb => (fun kb => (fun kb => kb = b55) kb ∨ (fun kb => (Value.slice Ar60 (bI c.timer.ver).length cr60).ownBlock = some kb) kb ∨ (fun kb => (Value.slice Ar64 (bI c.timer.tick).length cr64).ownBlock = some kb) kb ∨ (fun kb => (Value.slice Ar68 (bI c.timer.every).length cr68).ownBlock = some kb) kb ∨ (fun kb => (Value.slice Ar49 (encT c.timer.steps).length cr49).ownBlock = some kb) kb) kb ∨ (Value.slice (some ⟨b72, 0, none⟩) ([((4, c.timer.name) : Fld), ((5, (bI c.timer.ver)) : Fld), ((6, (bI c.timer.tick)) : Fld), ((7, (bI c.timer.every)) : Fld), ((8, (encT c.timer.steps)) : Fld)]).length ([((4, c.timer.name) : Fld), ((5, (bI c.timer.ver)) : Fld), ((6, (bI c.timer.tick)) : Fld), ((7, (bI c.timer.every)) : Fld), ((8, (encT c.timer.steps)) : Fld)]).length).ownBlock = some kb) kb) (fun w' v' h => h) (by rintro k_ (hk_ | hk_); exact .inl hk_; exact .inr hk_) ?_
    clear F H; intro a w v73 F H
    refine aN (SL.of H (sub_cons (sub_nil _) 6 rfl)) fun hS => ?_
    refine rT 22 F rfl (by kernel_rfl) pq rfl hS (fun w hS => x_assign (F.t 73 rfl)) rfl fun a F => ?_
    refine r_end (by kernel_rfl) ?_; clear hS
    exact hJr12 _ _ _ _ _ _ _ _ _ _ _ _ (F.bare.add F 5 rfl) (H.sub _ (sub_cons (sub_cons (sub_cons (sub_cons (sub_cons (sub_cons (sub_cons (sub_cons (sub_cons (sub_cons (sub_cons (sub_nil _) 72 rfl) 68 rfl) 64 rfl) 60 rfl) 55 rfl) 49 rfl) 6 rfl) 20 rfl) 18 rfl) 1 rfl) 900 rfl))
   ·
    refine w_call F (x_enter Tryz.func32 (by kernel_rfl) rfl (by simp only [bM, F.t 67 rfl] <;> rfl)) (rbI_calls _ hb.timer.every) rfl rfl ?_
    rintro _ w ⟨vr68, rfl, hm_, hr_⟩; refine ⟨_, rfl, ?_⟩; clear F; intro a F; have H := Hp.rowOut H 68 hm_ hr_; obtain ⟨Ar68, cr68, rfl⟩ := (H.row 68 rfl).form
    refine aN (SL.of H (sub_cons (sub_nil _) 6 rfl)) fun hS => ?_
    have H := H.freeze 68 rfl (fun kb => (Value.slice Ar68 (bI c.timer.every).length cr68).ownBlock = some kb) (fun kb => ⟨fun h => .inr h, fun h => h.resolve_left id⟩)
    refine rT 17 F rfl (by kernel_rfl) pq rfl hS (fun w hS => x_buildS (cells := #[.int .i64 7, .slice Ar68 (bI c.timer.every).length cr68]) (places := #[(0, 1), (1, 1)]) Tryz.underlying57 ty57 (by kernel_rfl) (by simp only [bM, F.t 68 rfl] <;> rfl) rfl) rfl fun a F => ?_
    refine r_do 3 rfl (by kernel_rfl) rfl rfl ?_
    refine w_s2b 55 (xs := c.timer.name) F H rfl Tryz.underlying9 Tryz.underlying27 Tryz.underlying5 (F.t 54 rfl) hb.timer.name (by have := (rightT_parts (rightC_3 hr hk3)); omega) ?_
    clear F H; intro a w b55 c55 hb55_ F H
    refine aN (SL.of H (sub_cons (sub_nil _) 6 rfl)) fun hS => ?_
    refine rT 4 F rfl (by kernel_rfl) pq rfl hS (fun w hS => x_buildS (cells := #[.int .i64 4, .slice (some ⟨b55, 0, none⟩) c.timer.name.length c55]) (places := #[(0, 1), (1, 1)]) Tryz.underlying57 ty57 (by kernel_rfl) (by simp only [bM, F.t 55 rfl] <;> rfl) rfl) rfl fun a F => ?_
    refine r_do 20 rfl (by kernel_rfl) rfl rfl ?_
    refine w_litE 72 FE ([((4, c.timer.name) : Fld), ((5, (bI c.timer.ver)) : Fld), ((6, (bI c.timer.tick)) : Fld), ((7, (bI c.timer.every)) : Fld), ((8, (encT c.timer.steps)) : Fld)]) #[.int .i64 4, .slice (some ⟨b55, 0, none⟩) c.timer.name.length c55, .int .i64 5, .slice Ar60 (bI c.timer.ver).length cr60, .int .i64 6, .slice Ar64 (bI c.timer.tick).length cr64, .int .i64 7, .slice Ar68 (bI c.timer.every).length cr68, .int .i64 8, .slice Ar49 (encT c.timer.steps).length cr49] (fun kb => (fun kb => kb = b55) kb ∨ (fun kb => (Value.slice Ar60 (bI c.timer.ver).length cr60).ownBlock = some kb) kb ∨ (fun kb => (Value.slice Ar64 (bI c.timer.tick).length cr64).ownBlock = some kb) kb ∨ (fun kb => (Value.slice Ar68 (bI c.timer.every).length cr68).ownBlock = some kb) kb ∨ (fun kb => (Value.slice Ar49 (encT c.timer.steps).length cr49).ownBlock = some kb) kb) F H rfl Tryz.underlying60 ty57 (by simp only [bM, F.t 56 rfl, F.t 61 rfl, F.t 65 rfl, F.t 69 rfl, F.t 71 rfl] <;> rfl) rfl (by decide) (by decide) (by kernel_rfl) ((((((Elems.single (fld_mk (f := ((4, c.timer.name) : Fld)) (((H.rd 55 rfl)).move (fun _ _ _ => rfl) (fun k h _ => .inl h)))).append (Elems.single (fld_mk (f := ((5, (bI c.timer.ver)) : Fld)) (((H.rd 60 rfl)).move (fun _ _ _ => rfl) (fun k h _ => .inr (.inl h)))))).append (Elems.single (fld_mk (f := ((6, (bI c.timer.tick)) : Fld)) (((H.rd 64 rfl)).move (fun _ _ _ => rfl) (fun k h _ => .inr (.inr (.inl h))))))).append (Elems.single (fld_mk (f := ((7, (bI c.timer.every)) : Fld)) (((H.rd 68 rfl)).move (fun _ _ _ => rfl) (fun k h _ => .inr (.inr (.inr (.inl h)))))))).append (Elems.single (fld_mk (f := ((8, (encT c.timer.steps)) : Fld)) (((H.rd 49 rfl)).move (fun _ _ _ => rfl) (fun k h _ => .inr (.inr (.inr (.inr (h)))))))))) (fun kb h => h.elim (fun h => ⟨55, _, rfl, h⟩) (fun h => h.elim (fun h => ⟨60, _, rfl, h⟩) (fun h => h.elim (fun h => ⟨64, _, rfl, h⟩) (fun h => h.elim (fun h => ⟨68, _, rfl, h⟩) (fun h => ⟨49, _, rfl, h⟩))))) ?_
    clear F H; intro a w b72 F H
    refine aN (SL.of H (sub_cons (sub_nil _) 6 rfl)) fun hS => ?_
    have H := H.freeze 72 rfl (fun kb => (fun kb => (fun kb => kb = b55) kb ∨ (fun kb => (Value.slice Ar60 (bI c.timer.ver).length cr60).ownBlock = some kb) kb ∨ (fun kb => (Value.slice Ar64 (bI c.timer.tick).length cr64).ownBlock = some kb) kb ∨ (fun kb => (Value.slice Ar68 (bI c.timer.every).length cr68).ownBlock = some kb) kb ∨ (fun kb => (Value.slice Ar49 (encT c.timer.steps).length cr49).ownBlock = some kb) kb) kb ∨ (Value.slice (some ⟨b72, 0, none⟩) ([((4, c.timer.name) : Fld), ((5, (bI c.timer.ver)) : Fld), ((6, (bI c.timer.tick)) : Fld), ((7, (bI c.timer.every)) : Fld), ((8, (encT c.timer.steps)) : Fld)]).length ([((4, c.timer.name) : Fld), ((5, (bI c.timer.ver)) : Fld), ((6, (bI c.timer.tick)) : Fld), ((7, (bI c.timer.every)) : Fld), ((8, (encT c.timer.steps)) : Fld)]).length).ownBlock = some kb) (fun kb => Iff.rfl)
    refine r_do 21 rfl (by kernel_rfl) rfl rfl ?_
    refine w_append 20 72 (xs := ([((1, [c.kind]) : Fld)])) (ys := ([((4, c.timer.name) : Fld), ((5, (bI c.timer.ver)) : Fld), ((6, (bI c.timer.tick)) : Fld), ((7, (bI c.timer.every)) : Fld), ((8, (encT c.timer.steps)) : Fld)])) F H rfl Tryz.underlying60 ty57 rfl rfl rfl rfl ((H.rd 72 rfl)) oI (F.t 52 rfl) (F.t 72 rfl) (by simp only [lN] at *; omega) (by simp only [lN, maxLen] at *; omega) (fun kb => (fun kb => (Value.slice (some ⟨b18, 0, none⟩) ([c.kind]).length ([c.kind]).length).ownBlock = some kb) kb ∨ (fun kb => (fun kb => (fun kb => kb = b55) kb ∨ (fun kb => (Value.slice Ar60 (bI c.timer.ver).length cr60).ownBlock = some kb) kb ∨ (fun kb => (Value.slice Ar64 (bI c.timer.tick).length cr64).ownBlock = some kb) kb ∨ (fun kb => (Value.slice Ar68 (bI c.timer.every).length cr68).ownBlock = some kb) kb ∨ (fun kb => (Value.slice Ar49 (encT c.timer.steps).length cr49).ownBlock = some kb) kb) kb ∨ (Value.slice (some ⟨b72, 0, none⟩) ([((4, c.timer.name) : Fld), ((5, (bI c.timer.ver)) : Fld), ((6, (bI c.timer.tick)) : Fld), ((7, (bI c.timer.every)) : Fld), ((8, (encT c.timer.steps)) : Fld)]).length ([((4, c.timer.name) : Fld), ((5, (bI c.timer.ver)) : Fld), ((6, (bI c.timer.tick)) : Fld), ((7, (bI c.timer.every)) : Fld), ((8, (encT c.timer.steps)) : Fld)]).length).ownBlock = some kb) kb) (fun w' v' h => h) (by rintro k_ (hk_ | hk_); exact .inl hk_; exact .inr hk_) ?_
    clear F H; intro a w v73 F H
    refine aN (SL.of H (sub_cons (sub_nil _) 6 rfl)) fun hS => ?_
    refine rT 22 F rfl (by kernel_rfl) pq rfl hS (fun w hS => x_assign (F.t 73 rfl)) rfl fun a F => ?_
    refine r_end (by kernel_rfl) ?_; clear hS
    exact hJr12 _ _ _ _ _ _ _ _ _ _ _ _ (F.bare.add F 5 rfl) (H.sub _ (sub_cons (sub_cons (sub_cons (sub_cons (sub_cons (sub_cons (sub_cons (sub_cons (sub_cons (sub_cons (sub_cons (sub_nil _) 72 rfl) 68 rfl) 64 rfl) 60 rfl) 55 rfl) 49 rfl) 6 rfl) 20 rfl) 18 rfl) 1 rfl) 900 rfl))
theorem rencM_calls (w0 : World) {m : MessageD} {okm0 : Nat → Prop} {Am0 : Option Addr} {cm0 : Nat} (hrm0 : Rd (Rep.int .i64) w0 okm0 Am0 m.nodes cm0) {okm1 : Nat → Prop} {Am1 : Option Addr} {cm1 : Nat} (hrm1 : Rd ChgE w0 okm1 Am1 m.changes cm1) (hb : MessageB m) : Calls Tryz.prog 8 #[.agg #[.int .i64 m.kind, .int .i64 m.src, .int .i64 m.dst, .int .i64 m.tx, .slice Am0 m.nodes.length cm0, .slice Am1 m.changes.length cm1]] w0 fun e w' => ∃ v, e = .returned (.tuple #[v, .int .i64 (encME m)]) ∧ Mods (fun _ => False) w0 w' ∧ RowOut (.int .u8) 5 w0 w' v (encM m) := by
 refine cow Tryz.func8 rfl Tryz.ntmps8 (Nat.le_of_ble_eq_true rfl) fun a F => ?_
 have H := Hp.nil (fun _ => False) w0
 have H := H.arg 900 hrm0.all (fun _ h => ⟨h, fun h => h⟩)
 have hlem0 := hrm0.le; unfold maxLen at hlem0
 have H := H.arg 901 hrm1.all (fun _ h => ⟨h, fun h => h⟩)
 have hlem1 := hrm1.le; unfold maxLen at hlem1
 refine sr fun _ hK1 => ?_
 refine lp rfl ?_
 refine w_box 1 F H rfl (F.t 0 rfl) ?_
 clear F H; intro a w b1 F H
 refine la F rfl (x_assign rfl) fun a F => ?_
 refine la F rfl (x_assign rfl) fun a F => ?_
 refine wn (hK1 _ _ ?_)
 refine sr fun _ hK2 => ?_
 refine la F rfl (x_loadn ty26 (F.t 1 rfl) rfl (blk_whole (H.at 1 rfl))) fun a F => ?_
 refine lp rfl ?_
 refine w_call F (x_enter Tryz.func13 (by kernel_rfl) rfl (by simp only [bM, F.t 14 rfl] <;> rfl)) (r16right_calls (m := m) _ ((H.rd 900 rfl)) ((H.rd 901 rfl)) hb) rfl rfl ?_
 rintro _ w ⟨rfl, hm_⟩; refine ⟨_, rfl, ?_⟩; clear F; intro a F; have H := H.same hm_
 refine la F rfl (x_assign (F.t 15 rfl)) fun a F => ?_
 refine wn (hK2 _ _ ?_)
 refine wp_seq_k fun _ hK3 => ?_
 refine sr fun _ hK4 => ?_
 refine la F rfl (x_move (F.t 4 rfl)) fun a F => ?_
 refine la F rfl (x_not (F.t 16 rfl)) fun a F => ?_
 refine wn (hK4 _ _ ?_)
 refine wp_cond_split (F.t 17 rfl) (fun hc17 => ?_) (fun hc17 => ?_)
 ·have hk17_1 := hc17; try simp only [bL] at hc17
  have hz : rightM m = false := by simpa using hc17
  refine sr fun _ hK5 => ?_
  refine la F rfl (x_assign rfl) fun a F => ?_
  refine la F rfl (x_assign rfl) fun a F => ?_
  refine wn (hK5 _ _ ?_)
  refine wp_ret ?_
  try simp only [Exit.then, Exit.inBlock]
  exact fin_ret F (res2 F rfl rfl rfl) ⟨.slice none 0 0, by rw [encME_no hz] <;> rfl, H.mods, by rw [encM_no hz]; exact RowOut.nil _ _ _ _⟩
 have hk17_2 := hc17; try simp only [bL] at hc17
 have hr : rightM m = true := by simpa using hc17
 refine wp_skip ?_
 refine hK3 _ _ ?_
 refine wp_seq_k fun _ hK6 => ?_
 refine r_start [(1, .blk b1 (.cells #[.int .i64 m.kind, .int .i64 m.src, .int .i64 m.dst, .int .i64 m.tx, .slice Am0 m.nodes.length cm0, .slice Am1 m.changes.length cm1] 26 (0, 0)))] (by kernel_rfl) H fun H => ?_
 have hS : SL [(1, .blk b1 (.cells #[.int .i64 m.kind, .int .i64 m.src, .int .i64 m.dst, .int .i64 m.tx, .slice Am0 m.nodes.length cm0, .slice Am1 m.changes.length cm1] 26 (0, 0)))] _ := SL.of H (sub_cons (sub_nil _) 1 rfl)
 refine rT 0 F rfl (by kernel_rfl) pq rfl hS (fun w hS => x_faddr Tryz.underlying26 rfl ty22 (by decide) (F.t 1 rfl) rfl) rfl fun a F => ?_
 refine rT 1 F rfl (by kernel_rfl) pq rfl hS (fun w hS => x_load1 ty22 (F.t 18 rfl) (blk_cell (SL.at_ hS 1 rfl) 0 rfl)) rfl fun a F => ?_
 refine rT 2 F rfl (by kernel_rfl) pq rfl hS (fun w hS => x_conv Tryz.underlying5 ⟨_, Tryz.underlying22⟩ (F.t 19 rfl) (wu8 (by have := (rightM_parts hr).kind; omega) (by have := (rightM_parts hr).kind; omega))) rfl fun a F => ?_
 refine rT 3 F rfl (by kernel_rfl) pq rfl hS (fun w hS => x_faddr Tryz.underlying26 rfl ty3 (by decide) (F.t 1 rfl) rfl) rfl fun a F => ?_
 refine rT 4 F rfl (by kernel_rfl) pq rfl hS (fun w hS => x_load1 ty3 (F.t 21 rfl) (blk_cell (SL.at_ hS 1 rfl) 1 rfl)) rfl fun a F => ?_
 refine rT 5 F rfl (by kernel_rfl) pq rfl hS (fun w hS => x_conv Tryz.underlying5 ⟨_, Tryz.underlying3⟩ (F.t 22 rfl) (wu8 (by have := (rightM_parts hr).src; omega) (by have := (rightM_parts hr).src; omega))) rfl fun a F => ?_
 refine rT 6 F rfl (by kernel_rfl) pq rfl hS (fun w hS => x_faddr Tryz.underlying26 rfl ty3 (by decide) (F.t 1 rfl) rfl) rfl fun a F => ?_
 refine rT 7 F rfl (by kernel_rfl) pq rfl hS (fun w hS => x_load1 ty3 (F.t 24 rfl) (blk_cell (SL.at_ hS 1 rfl) 2 rfl)) rfl fun a F => ?_
 refine rT 8 F rfl (by kernel_rfl) pq rfl hS (fun w hS => x_conv Tryz.underlying5 ⟨_, Tryz.underlying3⟩ (F.t 25 rfl) (wu8 (by have := (rightM_parts hr).dst; omega) (by have := (rightM_parts hr).dst; omega))) rfl fun a F => ?_
 refine rT 11 F rfl (by kernel_rfl) pq rfl hS (fun w hS => x_faddr Tryz.underlying26 rfl ty3 (by decide) (F.t 1 rfl) rfl) rfl fun a F => ?_
 refine rT 12 F rfl (by kernel_rfl) pq rfl hS (fun w hS => x_load1 ty3 (F.t 29 rfl) (blk_cell (SL.at_ hS 1 rfl) 3 rfl)) rfl fun a F => ?_
 refine rT 13 F rfl (by kernel_rfl) pq rfl hS (fun w hS => x_conv Tryz.underlying59 ⟨_, Tryz.underlying3⟩ (F.t 30 rfl) (wu64 (by have := (rightM_parts hr).tx; omega) (by have := (rightM_parts hr).tx; omega))) rfl fun a F => ?_
 refine r_do2 9 14 rfl rfl (by kernel_rfl) rfl rfl rfl rfl ?_ ?_
 ·
  refine w_lit 27 (enc := Value.int .u8) (h1 := fun _ => rfl) ([m.kind, m.src, m.dst]) F H rfl Tryz.underlying27 ty5 (by simp only [bM, F.t 20 rfl, F.t 23 rfl, F.t 26 rfl]; rfl) rfl (by decide) (by decide) (by kernel_rfl) ?_
  clear F H; intro a w b27 F H
  refine aN (SL.of H (sub_cons (sub_nil _) 1 rfl)) fun hS => ?_
  have H := H.freeze 27 rfl (fun kb => (Value.slice (some ⟨b27, 0, none⟩) ([m.kind, m.src, m.dst]).length ([m.kind, m.src, m.dst]).length).ownBlock = some kb) (fun kb => ⟨fun h => .inr h, fun h => h.resolve_left id⟩)
  refine rT 10 F rfl (by kernel_rfl) pq rfl hS (fun w hS => x_buildS (cells := #[.int .i64 1, .slice (some ⟨b27, 0, none⟩) ([m.kind, m.src, m.dst]).length ([m.kind, m.src, m.dst]).length]) (places := #[(0, 1), (1, 1)]) Tryz.underlying57 ty57 (by kernel_rfl) (by simp only [bM, F.t 27 rfl] <;> rfl) rfl) rfl fun a F => ?_
  refine r_do 14 rfl (by kernel_rfl) rfl rfl ?_
  refine w_call F (x_enter Tryz.func32 (by kernel_rfl) rfl (by simp only [bM, F.t 31 rfl] <;> rfl)) (rbI_calls _ (by have := (rightM_parts hr).tx; exact ⟨by omega, by omega⟩)) rfl rfl ?_
  rintro _ w ⟨vr32, rfl, hm_, hr_⟩; refine ⟨_, rfl, ?_⟩; clear F; intro a F; have H := Hp.rowOut H 32 hm_ hr_; obtain ⟨Ar32, cr32, rfl⟩ := (H.row 32 rfl).form
  refine aN (SL.of H (sub_cons (sub_nil _) 1 rfl)) fun hS => ?_
  have H := H.freeze 32 rfl (fun kb => (Value.slice Ar32 (bI m.tx).length cr32).ownBlock = some kb) (fun kb => ⟨fun h => .inr h, fun h => h.resolve_left id⟩)
  refine rT 15 F rfl (by kernel_rfl) pq rfl hS (fun w hS => x_buildS (cells := #[.int .i64 2, .slice Ar32 (bI m.tx).length cr32]) (places := #[(0, 1), (1, 1)]) Tryz.underlying57 ty57 (by kernel_rfl) (by simp only [bM, F.t 32 rfl] <;> rfl) rfl) rfl fun a F => ?_
  refine r_do 16 rfl (by kernel_rfl) rfl rfl ?_
  refine w_litE 5 FE ([((1, [m.kind, m.src, m.dst]) : Fld), ((2, bI m.tx) : Fld)]) #[.int .i64 1, .slice (some ⟨b27, 0, none⟩) ([m.kind, m.src, m.dst]).length ([m.kind, m.src, m.dst]).length, .int .i64 2, .slice Ar32 (bI m.tx).length cr32] (fun kb => (fun kb => (Value.slice (some ⟨b27, 0, none⟩) ([m.kind, m.src, m.dst]).length ([m.kind, m.src, m.dst]).length).ownBlock = some kb) kb ∨ (fun kb => (Value.slice Ar32 (bI m.tx).length cr32).ownBlock = some kb) kb) F H rfl Tryz.underlying60 ty57 (by simp only [bM, F.t 28 rfl, F.t 33 rfl] <;> rfl) rfl (by decide) (by decide) (by kernel_rfl) ((Elems.single (fld_mk (f := ((1, [m.kind, m.src, m.dst]) : Fld)) (((H.rd 27 rfl)).move (fun _ _ _ => rfl) (fun k h _ => .inl h)))).append (Elems.single (fld_mk (f := ((2, bI m.tx) : Fld)) (((H.rd 32 rfl)).move (fun _ _ _ => rfl) (fun k h _ => .inr h))))) (fun kb hk => hk.elim (fun h => ⟨27, _, rfl, h⟩) (fun h => ⟨32, _, rfl, h⟩)) ?_
  clear F H; intro a w b34 F H
  refine aN (SL.of H (sub_cons (sub_nil _) 1 rfl)) fun hS => ?_
  refine rT 17 F rfl (by kernel_rfl) pq rfl hS (fun w hS => x_assign (F.t 34 rfl)) rfl fun a F => ?_
  refine r_end (by kernel_rfl) ?_; clear hS
  refine hK6 _ _ ?_
  refine wp_seq_k fun _ hK7 => ?_
  refine sr fun _ hK8 => ?_
  refine la F rfl (x_faddr Tryz.underlying26 rfl ty22 (by decide) (F.t 1 rfl) rfl) fun a F => ?_
  refine la F rfl (x_load1 ty22 (F.t 35 rfl) (blk_cell (H.at 1 rfl) 0 rfl)) fun a F => ?_
  refine la F rfl (x_eql (F.t 36 rfl) rfl) fun a F => ?_
  refine wn (hK8 _ _ ?_)
  refine wp_cond_split (F.t 37 rfl) (fun hc37 => ?_) (fun hc37 => ?_)
  ·have hk37_3 := hc37; try simp only [bL] at hc37
   have hnl := nodes_len ((rightM_parts hr).prep hc37).2.1 (by omega) (by omega)
   have hcl := ((rightM_parts hr).prep hc37).2.2.1
   refine sr fun _ hK9 => ?_
   refine la F rfl (x_assign rfl) fun a F => ?_
   have H := H.row0 50 (.int .u8) 5
   refine wn (hK9 _ _ ?_)
   refine wp_seq_k fun _ hK10 => ?_
   refine sr fun _ hK11 => ?_
   refine la F rfl (x_assign rfl) fun a F => ?_
   refine wn (hK11 _ _ ?_)
   refine wp_block ?_
   refine wp_loop_ghost (fun n_ a w => ∃ k : Nat, ∃ v6 : Value, n_ = m.nodes.length - k ∧ (k ≤ m.nodes.length) ∧ Fr 101 a [(1, .pointer (some ⟨b1, 0, none⟩)), (5, .slice (some ⟨b34, 0, none⟩) ([((1, [m.kind, m.src, m.dst]) : Fld), ((2, bI m.tx) : Fld)]).length ([((1, [m.kind, m.src, m.dst]) : Fld), ((2, bI m.tx) : Fld)]).length), (6, v6), (7, .int .i64 (k : Int))] ∧ Hp (fun _ => False) w0 w [(900, .rd_ (.int .i64) Am0 m.nodes cm0 (fun k => k < w0.heap.size)), (901, .rd_ ChgE Am1 m.changes cm1 (fun k => k < w0.heap.size)), (1, .blk b1 (.cells #[.int .i64 m.kind, .int .i64 m.src, .int .i64 m.dst, .int .i64 m.tx, .slice Am0 m.nodes.length cm0, .slice Am1 m.changes.length cm1] 26 (0, 0))), (27, .rd_ (.int .u8) (some ⟨b27, 0, none⟩) ([m.kind, m.src, m.dst]) ([m.kind, m.src, m.dst]).length (fun kb => (Value.slice (some ⟨b27, 0, none⟩) ([m.kind, m.src, m.dst]).length ([m.kind, m.src, m.dst]).length).ownBlock = some kb)), (32, .rd_ (.int .u8) Ar32 (bI m.tx) cr32 (fun kb => (Value.slice Ar32 (bI m.tx).length cr32).ownBlock = some kb)), (5, .row FE 57 (.slice (some ⟨b34, 0, none⟩) ([((1, [m.kind, m.src, m.dst]) : Fld), ((2, bI m.tx) : Fld)]).length ([((1, [m.kind, m.src, m.dst]) : Fld), ((2, bI m.tx) : Fld)]).length) ([((1, [m.kind, m.src, m.dst]) : Fld), ((2, bI m.tx) : Fld)]) (fun kb => (fun kb => (Value.slice (some ⟨b27, 0, none⟩) ([m.kind, m.src, m.dst]).length ([m.kind, m.src, m.dst]).length).ownBlock = some kb) kb ∨ (fun kb => (Value.slice Ar32 (bI m.tx).length cr32).ownBlock = some kb) kb)), (50, .row (.int .u8) 5 v6 (m.nodes.take k) (fun _ => False))]) (m.nodes.length) ?_ ?_
   ·exact ⟨0, .slice none 0 0, rfl, by omega, ((((F.bare.add F 7 rfl).add F 6 rfl).add F 5 rfl).add F 1 rfl), H.sub _ (sub_cons (sub_cons (sub_cons (sub_cons (sub_cons (sub_cons (sub_cons (sub_nil _) 50 rfl) 5 rfl) 32 rfl) 27 rfl) 1 rfl) 901 rfl) 900 rfl)⟩
   rintro _ a w ⟨k, v6, rfl, hq0_0, F, H⟩
   refine wp_seq_k fun _ hK12 => ?_
   refine sr fun _ hK13 => ?_
   refine la F rfl (x_move (F.t 7 rfl)) fun a F => ?_
   refine la F rfl (x_faddr Tryz.underlying26 rfl ty23 (by decide) (F.t 1 rfl) rfl) fun a F => ?_
   refine la F rfl (x_load1 ty23 (F.t 39 rfl) (blk_cell (H.at 1 rfl) 4 rfl)) fun a F => ?_
   refine la F rfl (x_len_slice Tryz.underlying23 (F.t 40 rfl)) fun a F => ?_
   refine la F rfl (x_lss (F.t 38 rfl) (F.t 41 rfl)) fun a F => ?_
   refine wn (hK13 _ _ ?_)
   refine wp_cond_split (F.t 42 rfl) (fun hc42 => ?_) (fun hc42 => ?_)
   ·have hk42_4 := hc42; try simp only [bL] at hc42
    refine wp_skip ?_
    refine hK12 _ _ ?_
    refine wp_seq_k fun _ hK14 => ?_
    refine wp_block ?_
    refine wp_region_lit ?_
    have hmem : (gi m.nodes (k : Int)) ∈ m.nodes := List.mem_of_getElem? (gi_some (xs := m.nodes) (i := (k : Int)) (by omega) (by omega))
    refine la F rfl (x_move (F.t 6 rfl)) fun a F => ?_
    refine la F rfl (x_faddr Tryz.underlying26 rfl ty23 (by decide) (F.t 1 rfl) rfl) fun a F => ?_
    refine la F rfl (x_load1 ty23 (F.t 46 rfl) (blk_cell (H.at 1 rfl) 4 rfl)) fun a F => ?_
    refine la F rfl (x_move (F.t 7 rfl)) fun a F => ?_
    refine la F rfl (x_iaddr_A Tryz.underlying23 ty3 ((H.rd 900 rfl)) (F.t 47 rfl) (F.t 48 rfl) (by omega) (by omega) _) fun a F => ?_
    refine la F rfl (x_load1 ty3 (F.t 49 rfl) (((H.rd 900 rfl)).cellA (gi_some (i := (k : Int)) (by omega) (by omega)))) fun a F => ?_
    refine la F rfl (x_conv Tryz.underlying5 ⟨_, Tryz.underlying3⟩ (F.t 50 rfl) (wu8 (by have := nodes_in ((rightM_parts hr).prep hc37).2.1 _ hmem; omega) (by have := nodes_in ((rightM_parts hr).prep hc37).2.1 _ hmem; omega))) fun a F => ?_
    refine lp rfl ?_
    refine w_lit 950 (enc := Value.int .u8) (h1 := fun _ => rfl) ([(gi m.nodes (k : Int))]) F H rfl Tryz.underlying27 ty5 (by simp only [bM, F.t 51 rfl]; rfl) rfl (by decide) (by decide) (by kernel_rfl) ?_
    clear F H; intro a w b52 F H
    refine lp rfl ?_
    refine w_append 50 950 (xs := (m.nodes.take k)) (ys := ([(gi m.nodes (k : Int))])) F H rfl Tryz.underlying27 ty5 rfl rfl rfl rfl (Row.rd (ok' := fun k_ => (fun _ => False) k_ ∨ (.slice (some ⟨b52, 0, none⟩) ([(gi m.nodes (k : Int))]).length ([(gi m.nodes (k : Int))]).length : Value).ownBlock = some k_) (H.row 950 rfl) (fun _ hk_ _ => .inl hk_) (fun _ hk_ => .inr hk_)) (by rintro k_ (hk_ | hk_); exact .inr hk_; exact .inl hk_) (F.t 45 rfl) (F.t 52 rfl) (by simp only [lN]; omega) (by simp only [lN, maxLen]; omega) (fun _ => False) (fun w' v' h => row_flat h _) (fun k_ hk_ => hk_.elim) ?_
    clear F H; intro a w v53 F H
    refine la F rfl (x_assign (F.t 53 rfl)) fun a F => ?_
    refine wn (hK14 _ _ ?_)
    refine wp_region_lit ?_
    refine la F rfl (x_move (F.t 7 rfl)) fun a F => ?_
    refine la F rfl (x_add (F.t 43 rfl) rfl (w64 (by omega) (by omega))) fun a F => ?_
    refine la F rfl (x_assign (F.t 44 rfl)) fun a F => ?_
    refine wpList_nil ?_
    have hHs : Hp (fun _ => False) w0 w [(900, .rd_ (.int .i64) Am0 m.nodes cm0 (fun k => k < w0.heap.size)), (901, .rd_ ChgE Am1 m.changes cm1 (fun k => k < w0.heap.size)), (1, .blk b1 (.cells #[.int .i64 m.kind, .int .i64 m.src, .int .i64 m.dst, .int .i64 m.tx, .slice Am0 m.nodes.length cm0, .slice Am1 m.changes.length cm1] 26 (0, 0))), (27, .rd_ (.int .u8) (some ⟨b27, 0, none⟩) ([m.kind, m.src, m.dst]) ([m.kind, m.src, m.dst]).length (fun kb => (Value.slice (some ⟨b27, 0, none⟩) ([m.kind, m.src, m.dst]).length ([m.kind, m.src, m.dst]).length).ownBlock = some kb)), (32, .rd_ (.int .u8) Ar32 (bI m.tx) cr32 (fun kb => (Value.slice Ar32 (bI m.tx).length cr32).ownBlock = some kb)), (5, .row FE 57 (.slice (some ⟨b34, 0, none⟩) ([((1, [m.kind, m.src, m.dst]) : Fld), ((2, bI m.tx) : Fld)]).length ([((1, [m.kind, m.src, m.dst]) : Fld), ((2, bI m.tx) : Fld)]).length) ([((1, [m.kind, m.src, m.dst]) : Fld), ((2, bI m.tx) : Fld)]) (fun kb => (fun kb => (Value.slice (some ⟨b27, 0, none⟩) ([m.kind, m.src, m.dst]).length ([m.kind, m.src, m.dst]).length).ownBlock = some kb) kb ∨ (fun kb => (Value.slice Ar32 (bI m.tx).length cr32).ownBlock = some kb) kb)), (50, .row (.int .u8) 5 v53 (m.nodes.take k ++ [(gi m.nodes (k : Int))]) (fun _ => False))] := H.sub _ (sub_cons (sub_cons (sub_cons (sub_cons (sub_cons (sub_cons (sub_cons (sub_nil _) 50 rfl) 5 rfl) 32 rfl) 27 rfl) 1 rfl) 901 rfl) 900 rfl)
    rw [← gi_step hc42] at hHs
    exact ⟨_, by omega, ⟨k + 1, v53, rfl, by omega, ((((F.bare.add F 7 rfl).add F 6 rfl).add F 5 rfl).add F 1 rfl), hHs⟩⟩
   have hk42_5 := hc42; try simp only [bL] at hc42
   refine wp_exit ?_
   refine hK10 _ _ ?_
   refine sr fun _ hK15 => ?_
   obtain rfl : k = m.nodes.length := by omega
   rw [List.take_length] at H
   obtain ⟨Ad, cd, rfl⟩ := (H.row 50 rfl).form
   have H := H.freeze 50 rfl (fun kb => (Value.slice Ad m.nodes.length cd).ownBlock = some kb) (fun kb => ⟨fun h => .inr h, fun h => h.resolve_left id⟩)
   refine la F rfl (x_move (F.t 5 rfl)) fun a F => ?_
   refine la F rfl (x_move (F.t 6 rfl)) fun a F => ?_
   refine la F rfl (x_buildS (cells := #[.int .i64 3, .slice Ad m.nodes.length cd]) (places := #[(0, 1), (1, 1)]) Tryz.underlying57 ty57 (by kernel_rfl) (by simp only [bM, F.t 55 rfl] <;> rfl) rfl) fun a F => ?_
   refine lp rfl ?_
   refine w_lit1 57 FE ((3, m.nodes) : Fld) #[.int .i64 3, .slice Ad m.nodes.length cd] (fun kb => (Value.slice Ad m.nodes.length cd).ownBlock = some kb) F H rfl Tryz.underlying60 ty57 (by simp only [bM, F.t 56 rfl] <;> rfl) (by decide) (by kernel_rfl) (fld_mk (f := ((3, m.nodes) : Fld)) ((H.rd 50 rfl))) (fun kb hk => ⟨50, _, rfl, hk⟩) ?_
   clear F H; intro a w b57 F hb57_ H
   refine lp rfl ?_
   refine w_append 5 57 (xs := ([((1, [m.kind, m.src, m.dst]) : Fld), ((2, bI m.tx) : Fld)])) (ys := ([((3, m.nodes) : Fld)])) F H rfl Tryz.underlying60 ty57 rfl rfl rfl rfl ((H.rd 57 rfl)) oI (F.t 54 rfl) (F.t 57 rfl) (by simp only [lN] at *; omega) (by simp only [lN, maxLen] at *; omega) (fun kb => (fun kb => (fun kb => (Value.slice (some ⟨b27, 0, none⟩) ([m.kind, m.src, m.dst]).length ([m.kind, m.src, m.dst]).length).ownBlock = some kb) kb ∨ (fun kb => (Value.slice Ar32 (bI m.tx).length cr32).ownBlock = some kb) kb) kb ∨ (fun kb => (fun kb => (Value.slice Ad m.nodes.length cd).ownBlock = some kb) kb ∨ kb = b57) kb) (fun w' v' h => h) (by rintro k_ (hk_ | hk_); exact .inl hk_; exact .inr hk_) ?_
   clear F H; intro a w v58 F H
   refine la F rfl (x_assign (F.t 58 rfl)) fun a F => ?_
   refine wn (hK15 _ _ ?_)
   refine sr fun _ hK16 => ?_
   refine la F rfl (x_assign rfl) fun a F => ?_
   refine wn (hK16 _ _ ?_)
   refine wp_block ?_
   refine wp_loop_ghost (fun n_ a w => ∃ k : Nat, ∃ v5 : Value, ∃ okv : Nat → Prop, n_ = m.changes.length - k ∧ (k ≤ m.changes.length) ∧ Fr 101 a [(1, .pointer (some ⟨b1, 0, none⟩)), (5, v5), (8, .int .i64 (k : Int))] ∧ Hp (fun _ => False) w0 w [(900, .rd_ (.int .i64) Am0 m.nodes cm0 (fun k => k < w0.heap.size)), (901, .rd_ ChgE Am1 m.changes cm1 (fun k => k < w0.heap.size)), (1, .blk b1 (.cells #[.int .i64 m.kind, .int .i64 m.src, .int .i64 m.dst, .int .i64 m.tx, .slice Am0 m.nodes.length cm0, .slice Am1 m.changes.length cm1] 26 (0, 0))), (27, .rd_ (.int .u8) (some ⟨b27, 0, none⟩) ([m.kind, m.src, m.dst]) ([m.kind, m.src, m.dst]).length (fun kb => (Value.slice (some ⟨b27, 0, none⟩) ([m.kind, m.src, m.dst]).length ([m.kind, m.src, m.dst]).length).ownBlock = some kb)), (32, .rd_ (.int .u8) Ar32 (bI m.tx) cr32 (fun kb => (Value.slice Ar32 (bI m.tx).length cr32).ownBlock = some kb)), (5, .row FE 57 v5 (([((1, [m.kind, m.src, m.dst]) : Fld), ((2, bI m.tx) : Fld)] ++ [((3, m.nodes) : Fld)]) ++ (m.changes.take k).map (fun c => ((4, encC c) : Fld))) okv), (50, .rd_ (.int .u8) Ad m.nodes cd (fun kb => (Value.slice Ad m.nodes.length cd).ownBlock = some kb)), (57, .rd_ FE (some ⟨b57, 0, none⟩) [((3, m.nodes) : Fld)] 1 (fun kb => (fun kb => (Value.slice Ad m.nodes.length cd).ownBlock = some kb) kb ∨ kb = b57))]) (m.changes.length) ?_ ?_
   ·exact ⟨0, v58, (fun kb => (fun kb => (fun kb => (Value.slice (some ⟨b27, 0, none⟩) ([m.kind, m.src, m.dst]).length ([m.kind, m.src, m.dst]).length).ownBlock = some kb) kb ∨ (fun kb => (Value.slice Ar32 (bI m.tx).length cr32).ownBlock = some kb) kb) kb ∨ (fun kb => (fun kb => (Value.slice Ad m.nodes.length cd).ownBlock = some kb) kb ∨ kb = b57) kb), rfl, by omega, (((F.bare.add F 8 rfl).add F 5 rfl).add F 1 rfl), H.sub _ (sub_cons (sub_cons (sub_cons (sub_cons (sub_cons (sub_cons (sub_cons (sub_cons (sub_nil _) 57 rfl) 50 rfl) 5 rfl) 32 rfl) 27 rfl) 1 rfl) 901 rfl) 900 rfl)⟩
   rintro _ a w ⟨k, v5, okv, rfl, hq2_0, F, H⟩
   refine wp_seq_k fun _ hK17 => ?_
   refine sr fun _ hK18 => ?_
   refine la F rfl (x_move (F.t 8 rfl)) fun a F => ?_
   refine la F rfl (x_faddr Tryz.underlying26 rfl ty24 (by decide) (F.t 1 rfl) rfl) fun a F => ?_
   refine la F rfl (x_load1 ty24 (F.t 60 rfl) (blk_cell (H.at 1 rfl) 5 rfl)) fun a F => ?_
   refine la F rfl (x_len_slice Tryz.underlying24 (F.t 61 rfl)) fun a F => ?_
   refine la F rfl (x_lss (F.t 59 rfl) (F.t 62 rfl)) fun a F => ?_
   refine wn (hK18 _ _ ?_)
   refine wp_cond_split (F.t 63 rfl) (fun hc63 => ?_) (fun hc63 => ?_)
   ·have hk63_6 := hc63; try simp only [bL] at hc63
    refine wp_skip ?_
    refine hK17 _ _ ?_
    refine wp_seq_k fun _ hK19 => ?_
    refine wp_block ?_
    refine sr fun _ hK20 => ?_
    obtain ⟨fA1, fc1, hfr1, hf1_0, hf1_1, hf1_2, hf1_3, hf1_4, hf1_5, hf1_6, hf1_7, hfw1⟩ := rd_chg ((H.rd 901 rfl)) (gchg_some (xs := m.changes) (i := (k : Int)) (by omega) (by omega))
    have H := H.subrd 901 rfl 1007 hfr1 (fun _ h => h)
    have H := H.subcels 901 rfl 1499 hfw1 (Rd.inok ((H.rd 901 rfl)) (by omega) _)
    have H := H.subcel 901 rfl 1500 hf1_0 (Rd.inok ((H.rd 901 rfl)) (by omega) _)
    have H := H.subcel 901 rfl 1501 hf1_1 (Rd.inok ((H.rd 901 rfl)) (by omega) _)
    have H := H.subcel 901 rfl 1502 hf1_2 (Rd.inok ((H.rd 901 rfl)) (by omega) _)
    have H := H.subcel 901 rfl 1503 hf1_3 (Rd.inok ((H.rd 901 rfl)) (by omega) _)
    have H := H.subcel 901 rfl 1504 hf1_4 (Rd.inok ((H.rd 901 rfl)) (by omega) _)
    have H := H.subcel 901 rfl 1505 hf1_5 (Rd.inok ((H.rd 901 rfl)) (by omega) _)
    have H := H.subcel 901 rfl 1506 hf1_6 (Rd.inok ((H.rd 901 rfl)) (by omega) _)
    have H := H.subcel 901 rfl 1507 hf1_7 (Rd.inok ((H.rd 901 rfl)) (by omega) _)
    refine la F rfl (x_faddr Tryz.underlying26 rfl ty24 (by decide) (F.t 1 rfl) rfl) fun a F => ?_
    refine la F rfl (x_load1 ty24 (F.t 67 rfl) (blk_cell (H.at 1 rfl) 5 rfl)) fun a F => ?_
    refine la F rfl (x_move (F.t 8 rfl)) fun a F => ?_
    refine la F rfl (x_iaddr_A Tryz.underlying24 ty66 ((H.rd 901 rfl)) (F.t 68 rfl) (F.t 69 rfl) (by omega) (by omega) _) fun a F => ?_
    refine la F rfl (x_loadn ty66 (F.t 70 rfl) rfl (H.holds 1499 _ rfl)) fun a F => ?_
    refine lp rfl ?_
    refine w_call F (x_enter Tryz.func33 (by kernel_rfl) rfl (by simp only [bM, F.t 71 rfl] <;> rfl)) (rencC_calls (c := (gchg m.changes (k : Int))) _ ((H.rd 1007 rfl)) (hb.changes _ (gchg_mem (xs := m.changes) (j := k) (by omega)))) rfl rfl ?_
    rintro _ w ⟨vr67, rfl, hm_, hr_⟩; refine ⟨_, rfl, ?_⟩; clear F; intro a F; have H := Hp.rowOut H 67 hm_ hr_; obtain ⟨Ar67, cr67, rfl⟩ := (H.row 67 rfl).form
    refine la F rfl (x_move (F.t 72 rfl)) fun a F => ?_
    refine la F rfl (x_extract (F.t 66 rfl) rfl) fun a F => ?_
    refine la F rfl (x_extract (F.t 66 rfl) rfl) fun a F => ?_
    refine la F rfl (x_assign (F.t 73 rfl)) fun a F => ?_
    refine la F rfl (x_assign (F.t 74 rfl)) fun a F => ?_
    refine wn (hK20 _ _ ?_)
    refine wp_region_lit ?_
    have H := H.freeze 67 rfl (fun kb => (Value.slice Ar67 (encC (gchg m.changes (k : Int))).length cr67).ownBlock = some kb) (fun kb => ⟨fun h => .inr h, fun h => h.resolve_left id⟩)
    refine la F rfl (x_move (F.t 5 rfl)) fun a F => ?_
    refine la F rfl (x_move (F.t 9 rfl)) fun a F => ?_
    refine la F rfl (x_buildS (cells := #[.int .i64 4, .slice Ar67 (encC (gchg m.changes (k : Int))).length cr67]) (places := #[(0, 1), (1, 1)]) Tryz.underlying57 ty57 (by kernel_rfl) (by simp only [bM, F.t 76 rfl] <;> rfl) rfl) fun a F => ?_
    refine lp rfl ?_
    refine w_lit1 78 FE ((4, (encC (gchg m.changes (k : Int)))) : Fld) #[.int .i64 4, .slice Ar67 (encC (gchg m.changes (k : Int))).length cr67] (fun kb => (Value.slice Ar67 (encC (gchg m.changes (k : Int))).length cr67).ownBlock = some kb) F H rfl Tryz.underlying60 ty57 (by simp only [bM, F.t 77 rfl] <;> rfl) (by decide) (by kernel_rfl) (fld_mk (f := ((4, (encC (gchg m.changes (k : Int)))) : Fld)) ((H.rd 67 rfl))) (fun kb hk => ⟨67, _, rfl, hk⟩) ?_
    clear F H; intro a w b78 F hb78_ H
    refine lp rfl ?_
    refine w_append 5 78 (xs := (([((1, [m.kind, m.src, m.dst]) : Fld), ((2, bI m.tx) : Fld)] ++ [((3, m.nodes) : Fld)]) ++ (m.changes.take k).map (fun c => ((4, encC c) : Fld)))) (ys := ([((4, (encC (gchg m.changes (k : Int)))) : Fld)])) F H rfl Tryz.underlying60 ty57 rfl rfl rfl rfl ((H.rd 78 rfl)) oI (F.t 75 rfl) (F.t 78 rfl) (by simp only [lN] at *; omega) (by simp only [lN, maxLen] at *; omega) (fun kb => okv kb ∨ (fun kb => (fun kb => (Value.slice Ar67 (encC (gchg m.changes (k : Int))).length cr67).ownBlock = some kb) kb ∨ kb = b78) kb) (fun w' v' h => h) (by rintro k_ (hk_ | hk_); exact .inl hk_; exact .inr hk_) ?_
    clear F H; intro a w v79 F H
    refine la F rfl (x_assign (F.t 79 rfl)) fun a F => ?_
    refine wn (hK19 _ _ ?_)
    refine wp_region_lit ?_
    refine la F rfl (x_move (F.t 8 rfl)) fun a F => ?_
    refine la F rfl (x_add (F.t 64 rfl) rfl (w64 (by omega) (by omega))) fun a F => ?_
    refine la F rfl (x_assign (F.t 65 rfl)) fun a F => ?_
    refine wpList_nil ?_
    have hHs : Hp (fun _ => False) w0 w [(900, .rd_ (.int .i64) Am0 m.nodes cm0 (fun k => k < w0.heap.size)), (901, .rd_ ChgE Am1 m.changes cm1 (fun k => k < w0.heap.size)), (1, .blk b1 (.cells #[.int .i64 m.kind, .int .i64 m.src, .int .i64 m.dst, .int .i64 m.tx, .slice Am0 m.nodes.length cm0, .slice Am1 m.changes.length cm1] 26 (0, 0))), (27, .rd_ (.int .u8) (some ⟨b27, 0, none⟩) ([m.kind, m.src, m.dst]) ([m.kind, m.src, m.dst]).length (fun kb => (Value.slice (some ⟨b27, 0, none⟩) ([m.kind, m.src, m.dst]).length ([m.kind, m.src, m.dst]).length).ownBlock = some kb)), (32, .rd_ (.int .u8) Ar32 (bI m.tx) cr32 (fun kb => (Value.slice Ar32 (bI m.tx).length cr32).ownBlock = some kb)), (5, .row FE 57 v79 ((([((1, [m.kind, m.src, m.dst]) : Fld), ((2, bI m.tx) : Fld)] ++ [((3, m.nodes) : Fld)]) ++ (m.changes.take k).map (fun c => ((4, encC c) : Fld))) ++ [((4, encC (gchg m.changes (k : Int))) : Fld)]) (fun kb => okv kb ∨ (fun kb => (fun kb => (Value.slice Ar67 (encC (gchg m.changes (k : Int))).length cr67).ownBlock = some kb) kb ∨ kb = b78) kb)), (50, .rd_ (.int .u8) Ad m.nodes cd (fun kb => (Value.slice Ad m.nodes.length cd).ownBlock = some kb)), (57, .rd_ FE (some ⟨b57, 0, none⟩) [((3, m.nodes) : Fld)] 1 (fun kb => (fun kb => (Value.slice Ad m.nodes.length cd).ownBlock = some kb) kb ∨ kb = b57))] := H.sub _ (sub_cons (sub_cons (sub_cons (sub_cons (sub_cons (sub_cons (sub_cons (sub_cons (sub_nil _) 57 rfl) 50 rfl) 5 rfl) 32 rfl) 27 rfl) 1 rfl) 901 rfl) 900 rfl)
    rw [chg_stepL hc63] at hHs
    exact ⟨_, by omega, ⟨k + 1, v79, (fun kb => okv kb ∨ (fun kb => (fun kb => (Value.slice Ar67 (encC (gchg m.changes (k : Int))).length cr67).ownBlock = some kb) kb ∨ kb = b78) kb), rfl, by omega, (((F.bare.add F 8 rfl).add F 5 rfl).add F 1 rfl), hHs⟩⟩
   have hk63_7 := hc63; try simp only [bL] at hc63
   refine wp_exit ?_
   refine hK7 _ _ ?_
   refine sr fun khK21 hK21 => ?_
   obtain rfl : k = m.changes.length := by omega
   rw [List.take_length] at H
   rw [msgF_1 hc37] at H
   obtain ⟨Av, cv, rfl⟩ := (H.row 5 rfl).form
   refine la F rfl (x_move (F.t 5 rfl)) fun a F => ?_
   refine lp rfl ?_
   refine w_call F (x_enter Tryz.func34 (by kernel_rfl) rfl (by simp only [bM, F.t 81 rfl] <;> rfl)) (refEnc_at (Row.rd (ok' := fun k_ => okv k_ ∨ (.slice Av (msgF m).length cv : Value).ownBlock = some k_) (H.row 5 rfl) (fun _ hk_ _ => .inl hk_) (fun _ hk_ => .inr hk_)) (msg_encR hr hb)) rfl rfl ?_
   rintro _ w ⟨vr78, er78, rfl, hm_, hr_⟩; refine ⟨_, rfl, ?_⟩; clear F; intro a F; have H := Hp.rowOut H 78 hm_ hr_; obtain ⟨Ar78, cr78, rfl⟩ := (H.row 78 rfl).form
   refine la F rfl (x_move (F.t 82 rfl)) fun a F => ?_
   refine la F rfl (x_extract (F.t 80 rfl) rfl) fun a F => ?_
   refine la F rfl (x_extract (F.t 80 rfl) rfl) fun a F => ?_
   refine la F rfl (x_assign (F.t 83 rfl)) fun a F => ?_
   refine la F rfl (x_assign (F.t 84 rfl)) fun a F => ?_
   refine wn (hK21 _ _ ?_)
   refine sr fun _ hK22 => ?_
   refine la F rfl (x_move (F.t 11 rfl)) fun a F => ?_
   refine lp rfl ?_
   refine w_call F (x_enter Tryz.func35 (by kernel_rfl) rfl (by simp only [bM, F.t 85 rfl] <;> rfl)) (Crc.refSumI_calls _ (Row.rd (ok' := fun k_ => (fun _ => False) k_ ∨ (.slice Ar78 (encI (msgF m)).length cr78 : Value).ownBlock = some k_) (H.row 78 rfl) (fun _ hk_ _ => .inl hk_) (fun _ hk_ => .inr hk_))) rfl rfl ?_
   rintro _ w ⟨rfl, hm_⟩; refine ⟨_, rfl, ?_⟩; clear F; intro a F; have H := H.same hm_
   refine la F rfl (x_assign (F.t 86 rfl)) fun a F => ?_
   refine wn (hK22 _ _ ?_)
   refine sr fun _ hK23 => ?_
   refine la F rfl (x_move (F.t 11 rfl)) fun a F => ?_
   refine la F rfl (x_move (F.t 13 rfl)) fun a F => ?_
   refine la F rfl (x_conv Tryz.underlying5 ⟨_, Tryz.underlying69⟩ (F.t 88 rfl) (IntKind.wrap_u8 _)) fun a F => ?_
   refine la F rfl (x_move (F.t 13 rfl)) fun a F => ?_
   refine la F rfl (x_shr (F.t 90 rfl) rfl (by omega) (shrU _).1) fun a F => ?_
   refine la F rfl (x_conv Tryz.underlying5 ⟨_, Tryz.underlying69⟩ (F.t 91 rfl) (IntKind.wrap_u8 _)) fun a F => ?_
   refine la F rfl (x_move (F.t 13 rfl)) fun a F => ?_
   refine la F rfl (x_shr (F.t 93 rfl) rfl (by omega) (shrU _).2.1) fun a F => ?_
   refine la F rfl (x_conv Tryz.underlying5 ⟨_, Tryz.underlying69⟩ (F.t 94 rfl) (IntKind.wrap_u8 _)) fun a F => ?_
   refine la F rfl (x_move (F.t 13 rfl)) fun a F => ?_
   refine la F rfl (x_shr (F.t 96 rfl) rfl (by omega) (shrU _).2.2) fun a F => ?_
   refine la F rfl (x_conv Tryz.underlying5 ⟨_, Tryz.underlying69⟩ (F.t 97 rfl) (IntKind.wrap_u8 _)) fun a F => ?_
   refine lp rfl ?_
   refine w_lit 99 (enc := Value.int .u8) (h1 := fun _ => rfl) (le4 (Crc.moreI 0 (encI (msgF m)))) F H rfl Tryz.underlying27 ty5 (by simp only [bM, F.t 89 rfl, F.t 92 rfl, F.t 95 rfl, F.t 98 rfl]; rfl) rfl (by decide) (by decide) (by kernel_rfl) ?_
   clear F H; intro a w b99 F H
   refine lp rfl ?_
   refine w_append 78 99 (xs := (encI (msgF m))) (ys := (le4 (Crc.moreI 0 (encI (msgF m))))) F H rfl Tryz.underlying27 ty5 rfl rfl rfl rfl (Row.rd (ok' := fun k_ => (fun _ => False) k_ ∨ (.slice (some ⟨b99, 0, none⟩) ((le4 (Crc.moreI 0 (encI (msgF m))))).length ((le4 (Crc.moreI 0 (encI (msgF m))))).length : Value).ownBlock = some k_) (H.row 99 rfl) (fun _ hk_ _ => .inl hk_) (fun _ hk_ => .inr hk_)) (by rintro k_ (hk_ | hk_); exact .inr hk_; exact .inl hk_) (F.t 87 rfl) (F.t 99 rfl) (by have := msgI_len hr hb; simp only [le4, List.length_cons, List.length_nil]; omega) (by have := msgI_len hr hb; simp only [le4, List.length_cons, List.length_nil, maxLen]; omega) (fun _ => False) (fun w' v' h => row_flat h _) (fun k_ hk_ => hk_.elim) ?_
   clear F H; intro a w v100 F H
   refine la F rfl (x_assign (F.t 100 rfl)) fun a F => ?_
   refine la F rfl (x_assign rfl) fun a F => ?_
   refine wn (hK23 _ _ ?_)
   refine wp_ret ?_
   try simp only [Exit.then, Exit.inBlock]
   rw [encM_yes hr] at H
   exact fin_ret F (res2 F rfl rfl rfl) ⟨_, by rw [encME_yes hr] <;> rfl, H.mods, Hp.out H 78 rfl⟩
  have hk37_8 := hc37; try simp only [bL] at hc37
  refine wp_skip ?_
  refine hK7 _ _ ?_
  refine sr fun _ hK24 => ?_
  obtain ⟨fs, hfs⟩ : ∃ fs, fs = [((1, [m.kind, m.src, m.dst]) : Fld), ((2, bI m.tx) : Fld)] := ⟨_, rfl⟩
  rw [← hfs] at H F
  have hfs2 : fs = msgF m := hfs.trans (msgF_0 hc37)
  subst hfs2
  refine la F rfl (x_move (F.t 5 rfl)) fun a F => ?_
  refine lp rfl ?_
  refine w_call F (x_enter Tryz.func34 (by kernel_rfl) rfl (by simp only [bM, F.t 81 rfl] <;> rfl)) (refEnc_at (Row.rd (ok' := fun k_ => (fun kb => (fun kb => (Value.slice (some ⟨b27, 0, none⟩) ([m.kind, m.src, m.dst]).length ([m.kind, m.src, m.dst]).length).ownBlock = some kb) kb ∨ (fun kb => (Value.slice Ar32 (bI m.tx).length cr32).ownBlock = some kb) kb) k_ ∨ (.slice (some ⟨b34, 0, none⟩) (msgF m).length (msgF m).length : Value).ownBlock = some k_) (H.row 5 rfl) (fun _ hk_ _ => .inl hk_) (fun _ hk_ => .inr hk_)) (msg_encR hr hb)) rfl rfl ?_
  rintro _ w ⟨vr78, er78, rfl, hm_, hr_⟩; refine ⟨_, rfl, ?_⟩; clear F; intro a F; have H := Hp.rowOut H 78 hm_ hr_; obtain ⟨Ar78, cr78, rfl⟩ := (H.row 78 rfl).form
  refine la F rfl (x_move (F.t 82 rfl)) fun a F => ?_
  refine la F rfl (x_extract (F.t 80 rfl) rfl) fun a F => ?_
  refine la F rfl (x_extract (F.t 80 rfl) rfl) fun a F => ?_
  refine la F rfl (x_assign (F.t 83 rfl)) fun a F => ?_
  refine la F rfl (x_assign (F.t 84 rfl)) fun a F => ?_
  refine wn (hK24 _ _ ?_)
  refine sr fun _ hK25 => ?_
  refine la F rfl (x_move (F.t 11 rfl)) fun a F => ?_
  refine lp rfl ?_
  refine w_call F (x_enter Tryz.func35 (by kernel_rfl) rfl (by simp only [bM, F.t 85 rfl] <;> rfl)) (Crc.refSumI_calls _ (Row.rd (ok' := fun k_ => (fun _ => False) k_ ∨ (.slice Ar78 (encI (msgF m)).length cr78 : Value).ownBlock = some k_) (H.row 78 rfl) (fun _ hk_ _ => .inl hk_) (fun _ hk_ => .inr hk_))) rfl rfl ?_
  rintro _ w ⟨rfl, hm_⟩; refine ⟨_, rfl, ?_⟩; clear F; intro a F; have H := H.same hm_
  refine la F rfl (x_assign (F.t 86 rfl)) fun a F => ?_
  refine wn (hK25 _ _ ?_)
  refine sr fun _ hK26 => ?_
  refine la F rfl (x_move (F.t 11 rfl)) fun a F => ?_
  refine la F rfl (x_move (F.t 13 rfl)) fun a F => ?_
  refine la F rfl (x_conv Tryz.underlying5 ⟨_, Tryz.underlying69⟩ (F.t 88 rfl) (IntKind.wrap_u8 _)) fun a F => ?_
  refine la F rfl (x_move (F.t 13 rfl)) fun a F => ?_
  refine la F rfl (x_shr (F.t 90 rfl) rfl (by omega) (shrU _).1) fun a F => ?_
  refine la F rfl (x_conv Tryz.underlying5 ⟨_, Tryz.underlying69⟩ (F.t 91 rfl) (IntKind.wrap_u8 _)) fun a F => ?_
  refine la F rfl (x_move (F.t 13 rfl)) fun a F => ?_
  refine la F rfl (x_shr (F.t 93 rfl) rfl (by omega) (shrU _).2.1) fun a F => ?_
  refine la F rfl (x_conv Tryz.underlying5 ⟨_, Tryz.underlying69⟩ (F.t 94 rfl) (IntKind.wrap_u8 _)) fun a F => ?_
  refine la F rfl (x_move (F.t 13 rfl)) fun a F => ?_
  refine la F rfl (x_shr (F.t 96 rfl) rfl (by omega) (shrU _).2.2) fun a F => ?_
  refine la F rfl (x_conv Tryz.underlying5 ⟨_, Tryz.underlying69⟩ (F.t 97 rfl) (IntKind.wrap_u8 _)) fun a F => ?_
  refine lp rfl ?_
  refine w_lit 99 (enc := Value.int .u8) (h1 := fun _ => rfl) (le4 (Crc.moreI 0 (encI (msgF m)))) F H rfl Tryz.underlying27 ty5 (by simp only [bM, F.t 89 rfl, F.t 92 rfl, F.t 95 rfl, F.t 98 rfl]; rfl) rfl (by decide) (by decide) (by kernel_rfl) ?_
  clear F H; intro a w b99 F H
  refine lp rfl ?_
  refine w_append 78 99 (xs := (encI (msgF m))) (ys := (le4 (Crc.moreI 0 (encI (msgF m))))) F H rfl Tryz.underlying27 ty5 rfl rfl rfl rfl (Row.rd (ok' := fun k_ => (fun _ => False) k_ ∨ (.slice (some ⟨b99, 0, none⟩) ((le4 (Crc.moreI 0 (encI (msgF m))))).length ((le4 (Crc.moreI 0 (encI (msgF m))))).length : Value).ownBlock = some k_) (H.row 99 rfl) (fun _ hk_ _ => .inl hk_) (fun _ hk_ => .inr hk_)) (by rintro k_ (hk_ | hk_); exact .inr hk_; exact .inl hk_) (F.t 87 rfl) (F.t 99 rfl) (by have := msgI_len hr hb; simp only [le4, List.length_cons, List.length_nil]; omega) (by have := msgI_len hr hb; simp only [le4, List.length_cons, List.length_nil, maxLen]; omega) (fun _ => False) (fun w' v' h => row_flat h _) (fun k_ hk_ => hk_.elim) ?_
  clear F H; intro a w v100 F H
  refine la F rfl (x_assign (F.t 100 rfl)) fun a F => ?_
  refine la F rfl (x_assign rfl) fun a F => ?_
  refine wn (hK26 _ _ ?_)
  refine wp_ret ?_
  try simp only [Exit.then, Exit.inBlock]
  rw [encM_yes hr] at H
  exact fin_ret F (res2 F rfl rfl rfl) ⟨_, by rw [encME_yes hr] <;> rfl, H.mods, Hp.out H 78 rfl⟩
 ·
  refine w_call F (x_enter Tryz.func32 (by kernel_rfl) rfl (by simp only [bM, F.t 31 rfl] <;> rfl)) (rbI_calls _ (by have := (rightM_parts hr).tx; exact ⟨by omega, by omega⟩)) rfl rfl ?_
  rintro _ w ⟨vr32, rfl, hm_, hr_⟩; refine ⟨_, rfl, ?_⟩; clear F; intro a F; have H := Hp.rowOut H 32 hm_ hr_; obtain ⟨Ar32, cr32, rfl⟩ := (H.row 32 rfl).form
  refine aN (SL.of H (sub_cons (sub_nil _) 1 rfl)) fun hS => ?_
  have H := H.freeze 32 rfl (fun kb => (Value.slice Ar32 (bI m.tx).length cr32).ownBlock = some kb) (fun kb => ⟨fun h => .inr h, fun h => h.resolve_left id⟩)
  refine rT 15 F rfl (by kernel_rfl) pq rfl hS (fun w hS => x_buildS (cells := #[.int .i64 2, .slice Ar32 (bI m.tx).length cr32]) (places := #[(0, 1), (1, 1)]) Tryz.underlying57 ty57 (by kernel_rfl) (by simp only [bM, F.t 32 rfl] <;> rfl) rfl) rfl fun a F => ?_
  refine r_do 9 rfl (by kernel_rfl) rfl rfl ?_
  refine w_lit 27 (enc := Value.int .u8) (h1 := fun _ => rfl) ([m.kind, m.src, m.dst]) F H rfl Tryz.underlying27 ty5 (by simp only [bM, F.t 20 rfl, F.t 23 rfl, F.t 26 rfl]; rfl) rfl (by decide) (by decide) (by kernel_rfl) ?_
  clear F H; intro a w b27 F H
  refine aN (SL.of H (sub_cons (sub_nil _) 1 rfl)) fun hS => ?_
  have H := H.freeze 27 rfl (fun kb => (Value.slice (some ⟨b27, 0, none⟩) ([m.kind, m.src, m.dst]).length ([m.kind, m.src, m.dst]).length).ownBlock = some kb) (fun kb => ⟨fun h => .inr h, fun h => h.resolve_left id⟩)
  refine rT 10 F rfl (by kernel_rfl) pq rfl hS (fun w hS => x_buildS (cells := #[.int .i64 1, .slice (some ⟨b27, 0, none⟩) ([m.kind, m.src, m.dst]).length ([m.kind, m.src, m.dst]).length]) (places := #[(0, 1), (1, 1)]) Tryz.underlying57 ty57 (by kernel_rfl) (by simp only [bM, F.t 27 rfl] <;> rfl) rfl) rfl fun a F => ?_
  refine r_do 16 rfl (by kernel_rfl) rfl rfl ?_
  refine w_litE 5 FE ([((1, [m.kind, m.src, m.dst]) : Fld), ((2, bI m.tx) : Fld)]) #[.int .i64 1, .slice (some ⟨b27, 0, none⟩) ([m.kind, m.src, m.dst]).length ([m.kind, m.src, m.dst]).length, .int .i64 2, .slice Ar32 (bI m.tx).length cr32] (fun kb => (fun kb => (Value.slice (some ⟨b27, 0, none⟩) ([m.kind, m.src, m.dst]).length ([m.kind, m.src, m.dst]).length).ownBlock = some kb) kb ∨ (fun kb => (Value.slice Ar32 (bI m.tx).length cr32).ownBlock = some kb) kb) F H rfl Tryz.underlying60 ty57 (by simp only [bM, F.t 28 rfl, F.t 33 rfl] <;> rfl) rfl (by decide) (by decide) (by kernel_rfl) ((Elems.single (fld_mk (f := ((1, [m.kind, m.src, m.dst]) : Fld)) (((H.rd 27 rfl)).move (fun _ _ _ => rfl) (fun k h _ => .inl h)))).append (Elems.single (fld_mk (f := ((2, bI m.tx) : Fld)) (((H.rd 32 rfl)).move (fun _ _ _ => rfl) (fun k h _ => .inr h))))) (fun kb hk => hk.elim (fun h => ⟨27, _, rfl, h⟩) (fun h => ⟨32, _, rfl, h⟩)) ?_
  clear F H; intro a w b34 F H
  refine aN (SL.of H (sub_cons (sub_nil _) 1 rfl)) fun hS => ?_
  refine rT 17 F rfl (by kernel_rfl) pq rfl hS (fun w hS => x_assign (F.t 34 rfl)) rfl fun a F => ?_
  refine r_end (by kernel_rfl) ?_; clear hS
  refine hK6 _ _ ?_
  refine wp_seq_k fun _ hK27 => ?_
  refine sr fun _ hK28 => ?_
  refine la F rfl (x_faddr Tryz.underlying26 rfl ty22 (by decide) (F.t 1 rfl) rfl) fun a F => ?_
  refine la F rfl (x_load1 ty22 (F.t 35 rfl) (blk_cell (H.at 1 rfl) 0 rfl)) fun a F => ?_
  refine la F rfl (x_eql (F.t 36 rfl) rfl) fun a F => ?_
  refine wn (hK28 _ _ ?_)
  refine wp_cond_split (F.t 37 rfl) (fun hc37 => ?_) (fun hc37 => ?_)
  ·have hk37_9 := hc37; try simp only [bL] at hc37
   have hnl := nodes_len ((rightM_parts hr).prep hc37).2.1 (by omega) (by omega)
   have hcl := ((rightM_parts hr).prep hc37).2.2.1
   refine sr fun _ hK29 => ?_
   refine la F rfl (x_assign rfl) fun a F => ?_
   have H := H.row0 50 (.int .u8) 5
   refine wn (hK29 _ _ ?_)
   refine wp_seq_k fun _ hK30 => ?_
   refine sr fun _ hK31 => ?_
   refine la F rfl (x_assign rfl) fun a F => ?_
   refine wn (hK31 _ _ ?_)
   refine wp_block ?_
   refine wp_loop_ghost (fun n_ a w => ∃ k : Nat, ∃ v6 : Value, n_ = m.nodes.length - k ∧ (k ≤ m.nodes.length) ∧ Fr 101 a [(1, .pointer (some ⟨b1, 0, none⟩)), (5, .slice (some ⟨b34, 0, none⟩) ([((1, [m.kind, m.src, m.dst]) : Fld), ((2, bI m.tx) : Fld)]).length ([((1, [m.kind, m.src, m.dst]) : Fld), ((2, bI m.tx) : Fld)]).length), (6, v6), (7, .int .i64 (k : Int))] ∧ Hp (fun _ => False) w0 w [(900, .rd_ (.int .i64) Am0 m.nodes cm0 (fun k => k < w0.heap.size)), (901, .rd_ ChgE Am1 m.changes cm1 (fun k => k < w0.heap.size)), (1, .blk b1 (.cells #[.int .i64 m.kind, .int .i64 m.src, .int .i64 m.dst, .int .i64 m.tx, .slice Am0 m.nodes.length cm0, .slice Am1 m.changes.length cm1] 26 (0, 0))), (32, .rd_ (.int .u8) Ar32 (bI m.tx) cr32 (fun kb => (Value.slice Ar32 (bI m.tx).length cr32).ownBlock = some kb)), (27, .rd_ (.int .u8) (some ⟨b27, 0, none⟩) ([m.kind, m.src, m.dst]) ([m.kind, m.src, m.dst]).length (fun kb => (Value.slice (some ⟨b27, 0, none⟩) ([m.kind, m.src, m.dst]).length ([m.kind, m.src, m.dst]).length).ownBlock = some kb)), (5, .row FE 57 (.slice (some ⟨b34, 0, none⟩) ([((1, [m.kind, m.src, m.dst]) : Fld), ((2, bI m.tx) : Fld)]).length ([((1, [m.kind, m.src, m.dst]) : Fld), ((2, bI m.tx) : Fld)]).length) ([((1, [m.kind, m.src, m.dst]) : Fld), ((2, bI m.tx) : Fld)]) (fun kb => (fun kb => (Value.slice (some ⟨b27, 0, none⟩) ([m.kind, m.src, m.dst]).length ([m.kind, m.src, m.dst]).length).ownBlock = some kb) kb ∨ (fun kb => (Value.slice Ar32 (bI m.tx).length cr32).ownBlock = some kb) kb)), (50, .row (.int .u8) 5 v6 (m.nodes.take k) (fun _ => False))]) (m.nodes.length) ?_ ?_
   ·exact ⟨0, .slice none 0 0, rfl, by omega, ((((F.bare.add F 7 rfl).add F 6 rfl).add F 5 rfl).add F 1 rfl), H.sub _ (sub_cons (sub_cons (sub_cons (sub_cons (sub_cons (sub_cons (sub_cons (sub_nil _) 50 rfl) 5 rfl) 27 rfl) 32 rfl) 1 rfl) 901 rfl) 900 rfl)⟩
   rintro _ a w ⟨k, v6, rfl, hq0_0, F, H⟩
   refine wp_seq_k fun _ hK32 => ?_
   refine sr fun _ hK33 => ?_
   refine la F rfl (x_move (F.t 7 rfl)) fun a F => ?_
   refine la F rfl (x_faddr Tryz.underlying26 rfl ty23 (by decide) (F.t 1 rfl) rfl) fun a F => ?_
   refine la F rfl (x_load1 ty23 (F.t 39 rfl) (blk_cell (H.at 1 rfl) 4 rfl)) fun a F => ?_
   refine la F rfl (x_len_slice Tryz.underlying23 (F.t 40 rfl)) fun a F => ?_
   refine la F rfl (x_lss (F.t 38 rfl) (F.t 41 rfl)) fun a F => ?_
   refine wn (hK33 _ _ ?_)
   refine wp_cond_split (F.t 42 rfl) (fun hc42 => ?_) (fun hc42 => ?_)
   ·have hk42_10 := hc42; try simp only [bL] at hc42
    refine wp_skip ?_
    refine hK32 _ _ ?_
    refine wp_seq_k fun _ hK34 => ?_
    refine wp_block ?_
    refine wp_region_lit ?_
    have hmem : (gi m.nodes (k : Int)) ∈ m.nodes := List.mem_of_getElem? (gi_some (xs := m.nodes) (i := (k : Int)) (by omega) (by omega))
    refine la F rfl (x_move (F.t 6 rfl)) fun a F => ?_
    refine la F rfl (x_faddr Tryz.underlying26 rfl ty23 (by decide) (F.t 1 rfl) rfl) fun a F => ?_
    refine la F rfl (x_load1 ty23 (F.t 46 rfl) (blk_cell (H.at 1 rfl) 4 rfl)) fun a F => ?_
    refine la F rfl (x_move (F.t 7 rfl)) fun a F => ?_
    refine la F rfl (x_iaddr_A Tryz.underlying23 ty3 ((H.rd 900 rfl)) (F.t 47 rfl) (F.t 48 rfl) (by omega) (by omega) _) fun a F => ?_
    refine la F rfl (x_load1 ty3 (F.t 49 rfl) (((H.rd 900 rfl)).cellA (gi_some (i := (k : Int)) (by omega) (by omega)))) fun a F => ?_
    refine la F rfl (x_conv Tryz.underlying5 ⟨_, Tryz.underlying3⟩ (F.t 50 rfl) (wu8 (by have := nodes_in ((rightM_parts hr).prep hc37).2.1 _ hmem; omega) (by have := nodes_in ((rightM_parts hr).prep hc37).2.1 _ hmem; omega))) fun a F => ?_
    refine lp rfl ?_
    refine w_lit 950 (enc := Value.int .u8) (h1 := fun _ => rfl) ([(gi m.nodes (k : Int))]) F H rfl Tryz.underlying27 ty5 (by simp only [bM, F.t 51 rfl]; rfl) rfl (by decide) (by decide) (by kernel_rfl) ?_
    clear F H; intro a w b52 F H
    refine lp rfl ?_
    refine w_append 50 950 (xs := (m.nodes.take k)) (ys := ([(gi m.nodes (k : Int))])) F H rfl Tryz.underlying27 ty5 rfl rfl rfl rfl (Row.rd (ok' := fun k_ => (fun _ => False) k_ ∨ (.slice (some ⟨b52, 0, none⟩) ([(gi m.nodes (k : Int))]).length ([(gi m.nodes (k : Int))]).length : Value).ownBlock = some k_) (H.row 950 rfl) (fun _ hk_ _ => .inl hk_) (fun _ hk_ => .inr hk_)) (by rintro k_ (hk_ | hk_); exact .inr hk_; exact .inl hk_) (F.t 45 rfl) (F.t 52 rfl) (by simp only [lN]; omega) (by simp only [lN, maxLen]; omega) (fun _ => False) (fun w' v' h => row_flat h _) (fun k_ hk_ => hk_.elim) ?_
    clear F H; intro a w v53 F H
    refine la F rfl (x_assign (F.t 53 rfl)) fun a F => ?_
    refine wn (hK34 _ _ ?_)
    refine wp_region_lit ?_
    refine la F rfl (x_move (F.t 7 rfl)) fun a F => ?_
    refine la F rfl (x_add (F.t 43 rfl) rfl (w64 (by omega) (by omega))) fun a F => ?_
    refine la F rfl (x_assign (F.t 44 rfl)) fun a F => ?_
    refine wpList_nil ?_
    have hHs : Hp (fun _ => False) w0 w [(900, .rd_ (.int .i64) Am0 m.nodes cm0 (fun k => k < w0.heap.size)), (901, .rd_ ChgE Am1 m.changes cm1 (fun k => k < w0.heap.size)), (1, .blk b1 (.cells #[.int .i64 m.kind, .int .i64 m.src, .int .i64 m.dst, .int .i64 m.tx, .slice Am0 m.nodes.length cm0, .slice Am1 m.changes.length cm1] 26 (0, 0))), (32, .rd_ (.int .u8) Ar32 (bI m.tx) cr32 (fun kb => (Value.slice Ar32 (bI m.tx).length cr32).ownBlock = some kb)), (27, .rd_ (.int .u8) (some ⟨b27, 0, none⟩) ([m.kind, m.src, m.dst]) ([m.kind, m.src, m.dst]).length (fun kb => (Value.slice (some ⟨b27, 0, none⟩) ([m.kind, m.src, m.dst]).length ([m.kind, m.src, m.dst]).length).ownBlock = some kb)), (5, .row FE 57 (.slice (some ⟨b34, 0, none⟩) ([((1, [m.kind, m.src, m.dst]) : Fld), ((2, bI m.tx) : Fld)]).length ([((1, [m.kind, m.src, m.dst]) : Fld), ((2, bI m.tx) : Fld)]).length) ([((1, [m.kind, m.src, m.dst]) : Fld), ((2, bI m.tx) : Fld)]) (fun kb => (fun kb => (Value.slice (some ⟨b27, 0, none⟩) ([m.kind, m.src, m.dst]).length ([m.kind, m.src, m.dst]).length).ownBlock = some kb) kb ∨ (fun kb => (Value.slice Ar32 (bI m.tx).length cr32).ownBlock = some kb) kb)), (50, .row (.int .u8) 5 v53 (m.nodes.take k ++ [(gi m.nodes (k : Int))]) (fun _ => False))] := H.sub _ (sub_cons (sub_cons (sub_cons (sub_cons (sub_cons (sub_cons (sub_cons (sub_nil _) 50 rfl) 5 rfl) 27 rfl) 32 rfl) 1 rfl) 901 rfl) 900 rfl)
    rw [← gi_step hc42] at hHs
    exact ⟨_, by omega, ⟨k + 1, v53, rfl, by omega, ((((F.bare.add F 7 rfl).add F 6 rfl).add F 5 rfl).add F 1 rfl), hHs⟩⟩
   have hk42_11 := hc42; try simp only [bL] at hc42
   refine wp_exit ?_
   refine hK30 _ _ ?_
   refine sr fun _ hK35 => ?_
   obtain rfl : k = m.nodes.length := by omega
   rw [List.take_length] at H
   obtain ⟨Ad, cd, rfl⟩ := (H.row 50 rfl).form
   have H := H.freeze 50 rfl (fun kb => (Value.slice Ad m.nodes.length cd).ownBlock = some kb) (fun kb => ⟨fun h => .inr h, fun h => h.resolve_left id⟩)
   refine la F rfl (x_move (F.t 5 rfl)) fun a F => ?_
   refine la F rfl (x_move (F.t 6 rfl)) fun a F => ?_
   refine la F rfl (x_buildS (cells := #[.int .i64 3, .slice Ad m.nodes.length cd]) (places := #[(0, 1), (1, 1)]) Tryz.underlying57 ty57 (by kernel_rfl) (by simp only [bM, F.t 55 rfl] <;> rfl) rfl) fun a F => ?_
   refine lp rfl ?_
   refine w_lit1 57 FE ((3, m.nodes) : Fld) #[.int .i64 3, .slice Ad m.nodes.length cd] (fun kb => (Value.slice Ad m.nodes.length cd).ownBlock = some kb) F H rfl Tryz.underlying60 ty57 (by simp only [bM, F.t 56 rfl] <;> rfl) (by decide) (by kernel_rfl) (fld_mk (f := ((3, m.nodes) : Fld)) ((H.rd 50 rfl))) (fun kb hk => ⟨50, _, rfl, hk⟩) ?_
   clear F H; intro a w b57 F hb57_ H
   refine lp rfl ?_
   refine w_append 5 57 (xs := ([((1, [m.kind, m.src, m.dst]) : Fld), ((2, bI m.tx) : Fld)])) (ys := ([((3, m.nodes) : Fld)])) F H rfl Tryz.underlying60 ty57 rfl rfl rfl rfl ((H.rd 57 rfl)) oI (F.t 54 rfl) (F.t 57 rfl) (by simp only [lN] at *; omega) (by simp only [lN, maxLen] at *; omega) (fun kb => (fun kb => (fun kb => (Value.slice (some ⟨b27, 0, none⟩) ([m.kind, m.src, m.dst]).length ([m.kind, m.src, m.dst]).length).ownBlock = some kb) kb ∨ (fun kb => (Value.slice Ar32 (bI m.tx).length cr32).ownBlock = some kb) kb) kb ∨ (fun kb => (fun kb => (Value.slice Ad m.nodes.length cd).ownBlock = some kb) kb ∨ kb = b57) kb) (fun w' v' h => h) (by rintro k_ (hk_ | hk_); exact .inl hk_; exact .inr hk_) ?_
   clear F H; intro a w v58 F H
   refine la F rfl (x_assign (F.t 58 rfl)) fun a F => ?_
   refine wn (hK35 _ _ ?_)
   refine sr fun _ hK36 => ?_
   refine la F rfl (x_assign rfl) fun a F => ?_
   refine wn (hK36 _ _ ?_)
   refine wp_block ?_
   refine wp_loop_ghost (fun n_ a w => ∃ k : Nat, ∃ v5 : Value, ∃ okv : Nat → Prop, n_ = m.changes.length - k ∧ (k ≤ m.changes.length) ∧ Fr 101 a [(1, .pointer (some ⟨b1, 0, none⟩)), (5, v5), (8, .int .i64 (k : Int))] ∧ Hp (fun _ => False) w0 w [(900, .rd_ (.int .i64) Am0 m.nodes cm0 (fun k => k < w0.heap.size)), (901, .rd_ ChgE Am1 m.changes cm1 (fun k => k < w0.heap.size)), (1, .blk b1 (.cells #[.int .i64 m.kind, .int .i64 m.src, .int .i64 m.dst, .int .i64 m.tx, .slice Am0 m.nodes.length cm0, .slice Am1 m.changes.length cm1] 26 (0, 0))), (32, .rd_ (.int .u8) Ar32 (bI m.tx) cr32 (fun kb => (Value.slice Ar32 (bI m.tx).length cr32).ownBlock = some kb)), (27, .rd_ (.int .u8) (some ⟨b27, 0, none⟩) ([m.kind, m.src, m.dst]) ([m.kind, m.src, m.dst]).length (fun kb => (Value.slice (some ⟨b27, 0, none⟩) ([m.kind, m.src, m.dst]).length ([m.kind, m.src, m.dst]).length).ownBlock = some kb)), (5, .row FE 57 v5 (([((1, [m.kind, m.src, m.dst]) : Fld), ((2, bI m.tx) : Fld)] ++ [((3, m.nodes) : Fld)]) ++ (m.changes.take k).map (fun c => ((4, encC c) : Fld))) okv), (50, .rd_ (.int .u8) Ad m.nodes cd (fun kb => (Value.slice Ad m.nodes.length cd).ownBlock = some kb)), (57, .rd_ FE (some ⟨b57, 0, none⟩) [((3, m.nodes) : Fld)] 1 (fun kb => (fun kb => (Value.slice Ad m.nodes.length cd).ownBlock = some kb) kb ∨ kb = b57))]) (m.changes.length) ?_ ?_
   ·exact ⟨0, v58, (fun kb => (fun kb => (fun kb => (Value.slice (some ⟨b27, 0, none⟩) ([m.kind, m.src, m.dst]).length ([m.kind, m.src, m.dst]).length).ownBlock = some kb) kb ∨ (fun kb => (Value.slice Ar32 (bI m.tx).length cr32).ownBlock = some kb) kb) kb ∨ (fun kb => (fun kb => (Value.slice Ad m.nodes.length cd).ownBlock = some kb) kb ∨ kb = b57) kb), rfl, by omega, (((F.bare.add F 8 rfl).add F 5 rfl).add F 1 rfl), H.sub _ (sub_cons (sub_cons (sub_cons (sub_cons (sub_cons (sub_cons (sub_cons (sub_cons (sub_nil _) 57 rfl) 50 rfl) 5 rfl) 27 rfl) 32 rfl) 1 rfl) 901 rfl) 900 rfl)⟩
   rintro _ a w ⟨k, v5, okv, rfl, hq2_0, F, H⟩
   refine wp_seq_k fun _ hK37 => ?_
   refine sr fun _ hK38 => ?_
   refine la F rfl (x_move (F.t 8 rfl)) fun a F => ?_
   refine la F rfl (x_faddr Tryz.underlying26 rfl ty24 (by decide) (F.t 1 rfl) rfl) fun a F => ?_
   refine la F rfl (x_load1 ty24 (F.t 60 rfl) (blk_cell (H.at 1 rfl) 5 rfl)) fun a F => ?_
   refine la F rfl (x_len_slice Tryz.underlying24 (F.t 61 rfl)) fun a F => ?_
   refine la F rfl (x_lss (F.t 59 rfl) (F.t 62 rfl)) fun a F => ?_
   refine wn (hK38 _ _ ?_)
   refine wp_cond_split (F.t 63 rfl) (fun hc63 => ?_) (fun hc63 => ?_)
   ·have hk63_12 := hc63; try simp only [bL] at hc63
    refine wp_skip ?_
    refine hK37 _ _ ?_
    refine wp_seq_k fun _ hK39 => ?_
    refine wp_block ?_
    refine sr fun _ hK40 => ?_
    obtain ⟨fA1, fc1, hfr1, hf1_0, hf1_1, hf1_2, hf1_3, hf1_4, hf1_5, hf1_6, hf1_7, hfw1⟩ := rd_chg ((H.rd 901 rfl)) (gchg_some (xs := m.changes) (i := (k : Int)) (by omega) (by omega))
    have H := H.subrd 901 rfl 1007 hfr1 (fun _ h => h)
    have H := H.subcels 901 rfl 1499 hfw1 (Rd.inok ((H.rd 901 rfl)) (by omega) _)
    have H := H.subcel 901 rfl 1500 hf1_0 (Rd.inok ((H.rd 901 rfl)) (by omega) _)
    have H := H.subcel 901 rfl 1501 hf1_1 (Rd.inok ((H.rd 901 rfl)) (by omega) _)
    have H := H.subcel 901 rfl 1502 hf1_2 (Rd.inok ((H.rd 901 rfl)) (by omega) _)
    have H := H.subcel 901 rfl 1503 hf1_3 (Rd.inok ((H.rd 901 rfl)) (by omega) _)
    have H := H.subcel 901 rfl 1504 hf1_4 (Rd.inok ((H.rd 901 rfl)) (by omega) _)
    have H := H.subcel 901 rfl 1505 hf1_5 (Rd.inok ((H.rd 901 rfl)) (by omega) _)
    have H := H.subcel 901 rfl 1506 hf1_6 (Rd.inok ((H.rd 901 rfl)) (by omega) _)
    have H := H.subcel 901 rfl 1507 hf1_7 (Rd.inok ((H.rd 901 rfl)) (by omega) _)
    refine la F rfl (x_faddr Tryz.underlying26 rfl ty24 (by decide) (F.t 1 rfl) rfl) fun a F => ?_
    refine la F rfl (x_load1 ty24 (F.t 67 rfl) (blk_cell (H.at 1 rfl) 5 rfl)) fun a F => ?_
    refine la F rfl (x_move (F.t 8 rfl)) fun a F => ?_
    refine la F rfl (x_iaddr_A Tryz.underlying24 ty66 ((H.rd 901 rfl)) (F.t 68 rfl) (F.t 69 rfl) (by omega) (by omega) _) fun a F => ?_
    refine la F rfl (x_loadn ty66 (F.t 70 rfl) rfl (H.holds 1499 _ rfl)) fun a F => ?_
    refine lp rfl ?_
    refine w_call F (x_enter Tryz.func33 (by kernel_rfl) rfl (by simp only [bM, F.t 71 rfl] <;> rfl)) (rencC_calls (c := (gchg m.changes (k : Int))) _ ((H.rd 1007 rfl)) (hb.changes _ (gchg_mem (xs := m.changes) (j := k) (by omega)))) rfl rfl ?_
    rintro _ w ⟨vr67, rfl, hm_, hr_⟩; refine ⟨_, rfl, ?_⟩; clear F; intro a F; have H := Hp.rowOut H 67 hm_ hr_; obtain ⟨Ar67, cr67, rfl⟩ := (H.row 67 rfl).form
    refine la F rfl (x_move (F.t 72 rfl)) fun a F => ?_
    refine la F rfl (x_extract (F.t 66 rfl) rfl) fun a F => ?_
    refine la F rfl (x_extract (F.t 66 rfl) rfl) fun a F => ?_
    refine la F rfl (x_assign (F.t 73 rfl)) fun a F => ?_
    refine la F rfl (x_assign (F.t 74 rfl)) fun a F => ?_
    refine wn (hK40 _ _ ?_)
    refine wp_region_lit ?_
    have H := H.freeze 67 rfl (fun kb => (Value.slice Ar67 (encC (gchg m.changes (k : Int))).length cr67).ownBlock = some kb) (fun kb => ⟨fun h => .inr h, fun h => h.resolve_left id⟩)
    refine la F rfl (x_move (F.t 5 rfl)) fun a F => ?_
    refine la F rfl (x_move (F.t 9 rfl)) fun a F => ?_
    refine la F rfl (x_buildS (cells := #[.int .i64 4, .slice Ar67 (encC (gchg m.changes (k : Int))).length cr67]) (places := #[(0, 1), (1, 1)]) Tryz.underlying57 ty57 (by kernel_rfl) (by simp only [bM, F.t 76 rfl] <;> rfl) rfl) fun a F => ?_
    refine lp rfl ?_
    refine w_lit1 78 FE ((4, (encC (gchg m.changes (k : Int)))) : Fld) #[.int .i64 4, .slice Ar67 (encC (gchg m.changes (k : Int))).length cr67] (fun kb => (Value.slice Ar67 (encC (gchg m.changes (k : Int))).length cr67).ownBlock = some kb) F H rfl Tryz.underlying60 ty57 (by simp only [bM, F.t 77 rfl] <;> rfl) (by decide) (by kernel_rfl) (fld_mk (f := ((4, (encC (gchg m.changes (k : Int)))) : Fld)) ((H.rd 67 rfl))) (fun kb hk => ⟨67, _, rfl, hk⟩) ?_
    clear F H; intro a w b78 F hb78_ H
    refine lp rfl ?_
    refine w_append 5 78 (xs := (([((1, [m.kind, m.src, m.dst]) : Fld), ((2, bI m.tx) : Fld)] ++ [((3, m.nodes) : Fld)]) ++ (m.changes.take k).map (fun c => ((4, encC c) : Fld)))) (ys := ([((4, (encC (gchg m.changes (k : Int)))) : Fld)])) F H rfl Tryz.underlying60 ty57 rfl rfl rfl rfl ((H.rd 78 rfl)) oI (F.t 75 rfl) (F.t 78 rfl) (by simp only [lN] at *; omega) (by simp only [lN, maxLen] at *; omega) (fun kb => okv kb ∨ (fun kb => (fun kb => (Value.slice Ar67 (encC (gchg m.changes (k : Int))).length cr67).ownBlock = some kb) kb ∨ kb = b78) kb) (fun w' v' h => h) (by rintro k_ (hk_ | hk_); exact .inl hk_; exact .inr hk_) ?_
    clear F H; intro a w v79 F H
    refine la F rfl (x_assign (F.t 79 rfl)) fun a F => ?_
    refine wn (hK39 _ _ ?_)
    refine wp_region_lit ?_
    refine la F rfl (x_move (F.t 8 rfl)) fun a F => ?_
    refine la F rfl (x_add (F.t 64 rfl) rfl (w64 (by omega) (by omega))) fun a F => ?_
    refine la F rfl (x_assign (F.t 65 rfl)) fun a F => ?_
    refine wpList_nil ?_
    have hHs : Hp (fun _ => False) w0 w [(900, .rd_ (.int .i64) Am0 m.nodes cm0 (fun k => k < w0.heap.size)), (901, .rd_ ChgE Am1 m.changes cm1 (fun k => k < w0.heap.size)), (1, .blk b1 (.cells #[.int .i64 m.kind, .int .i64 m.src, .int .i64 m.dst, .int .i64 m.tx, .slice Am0 m.nodes.length cm0, .slice Am1 m.changes.length cm1] 26 (0, 0))), (32, .rd_ (.int .u8) Ar32 (bI m.tx) cr32 (fun kb => (Value.slice Ar32 (bI m.tx).length cr32).ownBlock = some kb)), (27, .rd_ (.int .u8) (some ⟨b27, 0, none⟩) ([m.kind, m.src, m.dst]) ([m.kind, m.src, m.dst]).length (fun kb => (Value.slice (some ⟨b27, 0, none⟩) ([m.kind, m.src, m.dst]).length ([m.kind, m.src, m.dst]).length).ownBlock = some kb)), (5, .row FE 57 v79 ((([((1, [m.kind, m.src, m.dst]) : Fld), ((2, bI m.tx) : Fld)] ++ [((3, m.nodes) : Fld)]) ++ (m.changes.take k).map (fun c => ((4, encC c) : Fld))) ++ [((4, encC (gchg m.changes (k : Int))) : Fld)]) (fun kb => okv kb ∨ (fun kb => (fun kb => (Value.slice Ar67 (encC (gchg m.changes (k : Int))).length cr67).ownBlock = some kb) kb ∨ kb = b78) kb)), (50, .rd_ (.int .u8) Ad m.nodes cd (fun kb => (Value.slice Ad m.nodes.length cd).ownBlock = some kb)), (57, .rd_ FE (some ⟨b57, 0, none⟩) [((3, m.nodes) : Fld)] 1 (fun kb => (fun kb => (Value.slice Ad m.nodes.length cd).ownBlock = some kb) kb ∨ kb = b57))] := H.sub _ (sub_cons (sub_cons (sub_cons (sub_cons (sub_cons (sub_cons (sub_cons (sub_cons (sub_nil _) 57 rfl) 50 rfl) 5 rfl) 27 rfl) 32 rfl) 1 rfl) 901 rfl) 900 rfl)
    rw [chg_stepL hc63] at hHs
    exact ⟨_, by omega, ⟨k + 1, v79, (fun kb => okv kb ∨ (fun kb => (fun kb => (Value.slice Ar67 (encC (gchg m.changes (k : Int))).length cr67).ownBlock = some kb) kb ∨ kb = b78) kb), rfl, by omega, (((F.bare.add F 8 rfl).add F 5 rfl).add F 1 rfl), hHs⟩⟩
   have hk63_13 := hc63; try simp only [bL] at hc63
   refine wp_exit ?_
   refine hK27 _ _ ?_
   refine sr fun _ hK41 => ?_
   obtain rfl : k = m.changes.length := by omega
   rw [List.take_length] at H
   rw [msgF_1 hc37] at H
   obtain ⟨Av, cv, rfl⟩ := (H.row 5 rfl).form
   refine la F rfl (x_move (F.t 5 rfl)) fun a F => ?_
   refine lp rfl ?_
   refine w_call F (x_enter Tryz.func34 (by kernel_rfl) rfl (by simp only [bM, F.t 81 rfl] <;> rfl)) (refEnc_at (Row.rd (ok' := fun k_ => okv k_ ∨ (.slice Av (msgF m).length cv : Value).ownBlock = some k_) (H.row 5 rfl) (fun _ hk_ _ => .inl hk_) (fun _ hk_ => .inr hk_)) (msg_encR hr hb)) rfl rfl ?_
   rintro _ w ⟨vr78, er78, rfl, hm_, hr_⟩; refine ⟨_, rfl, ?_⟩; clear F; intro a F; have H := Hp.rowOut H 78 hm_ hr_; obtain ⟨Ar78, cr78, rfl⟩ := (H.row 78 rfl).form
   refine la F rfl (x_move (F.t 82 rfl)) fun a F => ?_
   refine la F rfl (x_extract (F.t 80 rfl) rfl) fun a F => ?_
   refine la F rfl (x_extract (F.t 80 rfl) rfl) fun a F => ?_
   refine la F rfl (x_assign (F.t 83 rfl)) fun a F => ?_
   refine la F rfl (x_assign (F.t 84 rfl)) fun a F => ?_
   refine wn (hK41 _ _ ?_)
   refine sr fun _ hK42 => ?_
   refine la F rfl (x_move (F.t 11 rfl)) fun a F => ?_
   refine lp rfl ?_
   refine w_call F (x_enter Tryz.func35 (by kernel_rfl) rfl (by simp only [bM, F.t 85 rfl] <;> rfl)) (Crc.refSumI_calls _ (Row.rd (ok' := fun k_ => (fun _ => False) k_ ∨ (.slice Ar78 (encI (msgF m)).length cr78 : Value).ownBlock = some k_) (H.row 78 rfl) (fun _ hk_ _ => .inl hk_) (fun _ hk_ => .inr hk_))) rfl rfl ?_
   rintro _ w ⟨rfl, hm_⟩; refine ⟨_, rfl, ?_⟩; clear F; intro a F; have H := H.same hm_
   refine la F rfl (x_assign (F.t 86 rfl)) fun a F => ?_
   refine wn (hK42 _ _ ?_)
   refine sr fun _ hK43 => ?_
   refine la F rfl (x_move (F.t 11 rfl)) fun a F => ?_
   refine la F rfl (x_move (F.t 13 rfl)) fun a F => ?_
   refine la F rfl (x_conv Tryz.underlying5 ⟨_, Tryz.underlying69⟩ (F.t 88 rfl) (IntKind.wrap_u8 _)) fun a F => ?_
   refine la F rfl (x_move (F.t 13 rfl)) fun a F => ?_
   refine la F rfl (x_shr (F.t 90 rfl) rfl (by omega) (shrU _).1) fun a F => ?_
   refine la F rfl (x_conv Tryz.underlying5 ⟨_, Tryz.underlying69⟩ (F.t 91 rfl) (IntKind.wrap_u8 _)) fun a F => ?_
   refine la F rfl (x_move (F.t 13 rfl)) fun a F => ?_
   refine la F rfl (x_shr (F.t 93 rfl) rfl (by omega) (shrU _).2.1) fun a F => ?_
   refine la F rfl (x_conv Tryz.underlying5 ⟨_, Tryz.underlying69⟩ (F.t 94 rfl) (IntKind.wrap_u8 _)) fun a F => ?_
   refine la F rfl (x_move (F.t 13 rfl)) fun a F => ?_
   refine la F rfl (x_shr (F.t 96 rfl) rfl (by omega) (shrU _).2.2) fun a F => ?_
   refine la F rfl (x_conv Tryz.underlying5 ⟨_, Tryz.underlying69⟩ (F.t 97 rfl) (IntKind.wrap_u8 _)) fun a F => ?_
   refine lp rfl ?_
   refine w_lit 99 (enc := Value.int .u8) (h1 := fun _ => rfl) (le4 (Crc.moreI 0 (encI (msgF m)))) F H rfl Tryz.underlying27 ty5 (by simp only [bM, F.t 89 rfl, F.t 92 rfl, F.t 95 rfl, F.t 98 rfl]; rfl) rfl (by decide) (by decide) (by kernel_rfl) ?_
   clear F H; intro a w b99 F H
   refine lp rfl ?_
   refine w_append 78 99 (xs := (encI (msgF m))) (ys := (le4 (Crc.moreI 0 (encI (msgF m))))) F H rfl Tryz.underlying27 ty5 rfl rfl rfl rfl (Row.rd (ok' := fun k_ => (fun _ => False) k_ ∨ (.slice (some ⟨b99, 0, none⟩) ((le4 (Crc.moreI 0 (encI (msgF m))))).length ((le4 (Crc.moreI 0 (encI (msgF m))))).length : Value).ownBlock = some k_) (H.row 99 rfl) (fun _ hk_ _ => .inl hk_) (fun _ hk_ => .inr hk_)) (by rintro k_ (hk_ | hk_); exact .inr hk_; exact .inl hk_) (F.t 87 rfl) (F.t 99 rfl) (by have := msgI_len hr hb; simp only [le4, List.length_cons, List.length_nil]; omega) (by have := msgI_len hr hb; simp only [le4, List.length_cons, List.length_nil, maxLen]; omega) (fun _ => False) (fun w' v' h => row_flat h _) (fun k_ hk_ => hk_.elim) ?_
   clear F H; intro a w v100 F H
   refine la F rfl (x_assign (F.t 100 rfl)) fun a F => ?_
   refine la F rfl (x_assign rfl) fun a F => ?_
   refine wn (hK43 _ _ ?_)
   refine wp_ret ?_
   try simp only [Exit.then, Exit.inBlock]
   rw [encM_yes hr] at H
   exact fin_ret F (res2 F rfl rfl rfl) ⟨_, by rw [encME_yes hr] <;> rfl, H.mods, Hp.out H 78 rfl⟩
  have hk37_14 := hc37; try simp only [bL] at hc37
  refine wp_skip ?_
  refine hK27 _ _ ?_
  refine sr fun _ hK44 => ?_
  obtain ⟨fs, hfs⟩ : ∃ fs, fs = [((1, [m.kind, m.src, m.dst]) : Fld), ((2, bI m.tx) : Fld)] := ⟨_, rfl⟩
  rw [← hfs] at H F
  have hfs2 : fs = msgF m := hfs.trans (msgF_0 hc37)
  subst hfs2
  refine la F rfl (x_move (F.t 5 rfl)) fun a F => ?_
  refine lp rfl ?_
  refine w_call F (x_enter Tryz.func34 (by kernel_rfl) rfl (by simp only [bM, F.t 81 rfl] <;> rfl)) (refEnc_at (Row.rd (ok' := fun k_ => (fun kb => (fun kb => (Value.slice (some ⟨b27, 0, none⟩) ([m.kind, m.src, m.dst]).length ([m.kind, m.src, m.dst]).length).ownBlock = some kb) kb ∨ (fun kb => (Value.slice Ar32 (bI m.tx).length cr32).ownBlock = some kb) kb) k_ ∨ (.slice (some ⟨b34, 0, none⟩) (msgF m).length (msgF m).length : Value).ownBlock = some k_) (H.row 5 rfl) (fun _ hk_ _ => .inl hk_) (fun _ hk_ => .inr hk_)) (msg_encR hr hb)) rfl rfl ?_
  rintro _ w ⟨vr78, er78, rfl, hm_, hr_⟩; refine ⟨_, rfl, ?_⟩; clear F; intro a F; have H := Hp.rowOut H 78 hm_ hr_; obtain ⟨Ar78, cr78, rfl⟩ := (H.row 78 rfl).form
  refine la F rfl (x_move (F.t 82 rfl)) fun a F => ?_
  refine la F rfl (x_extract (F.t 80 rfl) rfl) fun a F => ?_
  refine la F rfl (x_extract (F.t 80 rfl) rfl) fun a F => ?_
  refine la F rfl (x_assign (F.t 83 rfl)) fun a F => ?_
  refine la F rfl (x_assign (F.t 84 rfl)) fun a F => ?_
  refine wn (hK44 _ _ ?_)
  refine sr fun _ hK45 => ?_
  refine la F rfl (x_move (F.t 11 rfl)) fun a F => ?_
  refine lp rfl ?_
  refine w_call F (x_enter Tryz.func35 (by kernel_rfl) rfl (by simp only [bM, F.t 85 rfl] <;> rfl)) (Crc.refSumI_calls _ (Row.rd (ok' := fun k_ => (fun _ => False) k_ ∨ (.slice Ar78 (encI (msgF m)).length cr78 : Value).ownBlock = some k_) (H.row 78 rfl) (fun _ hk_ _ => .inl hk_) (fun _ hk_ => .inr hk_))) rfl rfl ?_
  rintro _ w ⟨rfl, hm_⟩; refine ⟨_, rfl, ?_⟩; clear F; intro a F; have H := H.same hm_
  refine la F rfl (x_assign (F.t 86 rfl)) fun a F => ?_
  refine wn (hK45 _ _ ?_)
  refine sr fun _ hK46 => ?_
  refine la F rfl (x_move (F.t 11 rfl)) fun a F => ?_
  refine la F rfl (x_move (F.t 13 rfl)) fun a F => ?_
  refine la F rfl (x_conv Tryz.underlying5 ⟨_, Tryz.underlying69⟩ (F.t 88 rfl) (IntKind.wrap_u8 _)) fun a F => ?_
  refine la F rfl (x_move (F.t 13 rfl)) fun a F => ?_
  refine la F rfl (x_shr (F.t 90 rfl) rfl (by omega) (shrU _).1) fun a F => ?_
  refine la F rfl (x_conv Tryz.underlying5 ⟨_, Tryz.underlying69⟩ (F.t 91 rfl) (IntKind.wrap_u8 _)) fun a F => ?_
  refine la F rfl (x_move (F.t 13 rfl)) fun a F => ?_
  refine la F rfl (x_shr (F.t 93 rfl) rfl (by omega) (shrU _).2.1) fun a F => ?_
  refine la F rfl (x_conv Tryz.underlying5 ⟨_, Tryz.underlying69⟩ (F.t 94 rfl) (IntKind.wrap_u8 _)) fun a F => ?_
  refine la F rfl (x_move (F.t 13 rfl)) fun a F => ?_
  refine la F rfl (x_shr (F.t 96 rfl) rfl (by omega) (shrU _).2.2) fun a F => ?_
  refine la F rfl (x_conv Tryz.underlying5 ⟨_, Tryz.underlying69⟩ (F.t 97 rfl) (IntKind.wrap_u8 _)) fun a F => ?_
  refine lp rfl ?_
  refine w_lit 99 (enc := Value.int .u8) (h1 := fun _ => rfl) (le4 (Crc.moreI 0 (encI (msgF m)))) F H rfl Tryz.underlying27 ty5 (by simp only [bM, F.t 89 rfl, F.t 92 rfl, F.t 95 rfl, F.t 98 rfl]; rfl) rfl (by decide) (by decide) (by kernel_rfl) ?_
  clear F H; intro a w b99 F H
  refine lp rfl ?_
  refine w_append 78 99 (xs := (encI (msgF m))) (ys := (le4 (Crc.moreI 0 (encI (msgF m))))) F H rfl Tryz.underlying27 ty5 rfl rfl rfl rfl (Row.rd (ok' := fun k_ => (fun _ => False) k_ ∨ (.slice (some ⟨b99, 0, none⟩) ((le4 (Crc.moreI 0 (encI (msgF m))))).length ((le4 (Crc.moreI 0 (encI (msgF m))))).length : Value).ownBlock = some k_) (H.row 99 rfl) (fun _ hk_ _ => .inl hk_) (fun _ hk_ => .inr hk_)) (by rintro k_ (hk_ | hk_); exact .inr hk_; exact .inl hk_) (F.t 87 rfl) (F.t 99 rfl) (by have := msgI_len hr hb; simp only [le4, List.length_cons, List.length_nil]; omega) (by have := msgI_len hr hb; simp only [le4, List.length_cons, List.length_nil, maxLen]; omega) (fun _ => False) (fun w' v' h => row_flat h _) (fun k_ hk_ => hk_.elim) ?_
  clear F H; intro a w v100 F H
  refine la F rfl (x_assign (F.t 100 rfl)) fun a F => ?_
  refine la F rfl (x_assign rfl) fun a F => ?_
  refine wn (hK46 _ _ ?_)
  refine wp_ret ?_
  try simp only [Exit.then, Exit.inBlock]
  rw [encM_yes hr] at H
  exact fin_ret F (res2 F rfl rfl rfl) ⟨_, by rw [encME_yes hr] <;> rfl, H.mods, Hp.out H 78 rfl⟩
end Go.Proofs.YtiiklnghnifmjaaGreatDoor.Act
