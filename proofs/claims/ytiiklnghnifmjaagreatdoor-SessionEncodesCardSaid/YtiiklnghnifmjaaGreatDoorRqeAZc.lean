/- The document's bytes of requests, walked. -/
import Derived.Test.YtiiklnghnifmjaaGreatDoorRqaAZc
set_option linter.unusedVariables false
set_option maxRecDepth 100000
set_option maxHeartbeats 1000000
set_option linter.unusedSimpArgs false
namespace Go.Proofs.YtiiklnghnifmjaaGreatDoor.Act
open Go.RowKit Go.Proofs.YtiiklnghnifmjaaGreatDoor.Sx Go.Proofs.YtiiklnghnifmjaaGreatDoor.Cod Go.Proofs.YtiiklnghnifmjaaGreatDoor.Num
theorem rop_calls (w0 : World) {o : OpD} {oko0 : Nat → Prop} {Ao0 : Option Addr} {co0 : Nat} (hro0 : Rd StE w0 oko0 Ao0 o.timer.steps co0) (hb : OpB o) (ho : overO o = true) : Calls Tryz.prog 55 #[.agg #[.int .i64 o.kind, .string (strOfNums o.key), .int .i64 o.step.1, .string (strOfNums o.step.2.1), .string (strOfNums o.step.2.2.1), .int .i64 o.step.2.2.2, .string (strOfNums o.timer.name), .int .i64 o.timer.ver, .int .u64 o.timer.tick, .int .u64 o.timer.every, .slice Ao0 o.timer.steps.length co0]] w0 fun e w' => ∃ v, e = .returned v ∧ Mods (fun _ => False) w0 w' ∧ RowOut (.int .u8) 5 w0 w' v (opI o) := by
 have hk_ : 1 ≤ o.kind ∧ o.kind ≤ 4 := by rcases overO_parts hb ho with ⟨h | h, _⟩ | ⟨h, _⟩ | ⟨h, _⟩ <;> omega
 refine cow Tryz.func55 rfl Tryz.ntmps55 (Nat.le_of_ble_eq_true rfl) fun a F => ?_
 have H := Hp.nil (fun _ => False) w0
 have H := H.arg 900 hro0.all (fun _ h => ⟨h, fun h => h⟩)
 have hleo0 := hro0.le; unfold maxLen at hleo0
 refine sr fun _ hK1 => ?_
 refine lp rfl ?_
 refine w_box 1 F H rfl (F.t 0 rfl) ?_
 clear F H; intro a w b1 F H
 refine la F rfl (x_assign rfl) fun a F => wn (hK1 _ _ (sr fun _ hK2 => la F rfl (x_faddr Tryz.underlying93 rfl ty88 (by decide) (F.t 1 rfl) rfl) fun a F => la F rfl (x_load1 ty88 (F.t 11 rfl) (blk_cell (H.at 1 rfl) 0 rfl)) fun a F => la F rfl (x_conv Tryz.underlying5 ⟨_, Tryz.underlying88⟩ (F.t 12 rfl) (wu8 (by omega) (by omega))) fun a F => ?_))
 refine lp rfl ?_
 refine w_lit 14 (enc := Value.int .u8) (h1 := fun _ => rfl) ([o.kind]) F H rfl Tryz.underlying27 ty5 (by simp only [bM, F.t 13 rfl]; rfl) rfl (by decide) (by decide) (by kernel_rfl) ?_
 clear F H; intro a w b14 F H
 have H := H.freeze 14 rfl (fun kb => (Value.slice (some ⟨b14, 0, none⟩) ([o.kind]).length ([o.kind]).length).ownBlock = some kb) (fun kb => ⟨fun h => .inr h, fun h => h.resolve_left id⟩)
 refine la F rfl (x_buildS (cells := #[.int .i64 1, .slice (some ⟨b14, 0, none⟩) ([o.kind]).length ([o.kind]).length]) (places := #[(0, 1), (1, 1)]) Tryz.underlying57 ty57 (by kernel_rfl) (by simp only [bM, F.t 14 rfl] <;> rfl) rfl) fun a F => ?_
 refine lp rfl ?_
 refine w_litE 16 FE ([((1, [o.kind]) : Fld)]) #[.int .i64 1, .slice (some ⟨b14, 0, none⟩) ([o.kind]).length ([o.kind]).length] (fun kb => (Value.slice (some ⟨b14, 0, none⟩) ([o.kind]).length ([o.kind]).length).ownBlock = some kb) F H rfl Tryz.underlying60 ty57 (by simp only [bM, F.t 15 rfl] <;> rfl) rfl (by decide) (by decide) (by kernel_rfl) (Elems.single (fld_mk (f := ((1, [o.kind]) : Fld)) ((H.rd 14 rfl)))) (fun kb hk => ⟨14, _, rfl, hk⟩) ?_
 clear F H; intro a w b16 F H
 refine la F rfl (x_assign (F.t 16 rfl)) fun a F => wn (hK2 _ _ ?_)
 refine wp_seq_k fun _ hK3 => ?_
 refine sr fun _ hK4 => la F rfl (x_faddr Tryz.underlying93 rfl ty88 (by decide) (F.t 1 rfl) rfl) fun a F => la F rfl (x_load1 ty88 (F.t 17 rfl) (blk_cell (H.at 1 rfl) 0 rfl)) fun a F => wn (hK4 _ _ (wp_block ?_))
 refine wp_seq_k fun _ hK5 => ?_
 refine sr fun _ hK6 => la F rfl (x_eql (F.t 18 rfl) rfl) fun a F => la F rfl (x_assign (F.t 20 rfl)) fun a F => wn (hK6 _ _ ?_)
 refine wp_cond_split (F.t 19 rfl) (fun hc19 => ?_) (fun hc19 => ?_)
 ·have hk19_1 := hc19; try simp only [bL] at hc19
  refine wp_skip (hK5 _ _ ?_)
  refine wp_cond_true ((F.t 19 rfl).trans (by rw [hk19_1])) ?_
  refine wp_region_lit ?_
  refine la F rfl (x_move (F.t 3 rfl)) fun a F => la F rfl (x_faddr Tryz.underlying93 rfl ty9 (by decide) (F.t 1 rfl) rfl) fun a F => la F rfl (x_load1 ty9 (F.t 23 rfl) (blk_cell (H.at 1 rfl) 1 rfl)) fun a F => ?_
  refine lp rfl ?_
  refine w_s2b 25 (xs := o.key) F H rfl Tryz.underlying9 Tryz.underlying27 Tryz.underlying5 (F.t 24 rfl) hb.key (by have := (over_lens hb ho).1; omega) ?_
  clear F H; intro a w b25 c25 hb25_ F H
  refine la F rfl (x_buildS (cells := #[.int .i64 2, .slice (some ⟨b25, 0, none⟩) o.key.length c25]) (places := #[(0, 1), (1, 1)]) Tryz.underlying57 ty57 (by kernel_rfl) (by simp only [bM, F.t 25 rfl] <;> rfl) rfl) fun a F => ?_
  refine lp rfl ?_
  refine w_lit1 27 FE ((2, o.key) : Fld) #[.int .i64 2, .slice (some ⟨b25, 0, none⟩) o.key.length c25] (fun kb => kb = b25) F H rfl Tryz.underlying60 ty57 (by simp only [bM, F.t 26 rfl] <;> rfl) (by decide) (by kernel_rfl) (fld_mk (f := ((2, o.key) : Fld)) ((H.rd 25 rfl))) (fun kb hk => ⟨25, _, rfl, hk⟩) ?_
  clear F H; intro a w b27 F hb27_ H
  refine lp rfl ?_
  refine w_append 16 27 (xs := ([((1, [o.kind]) : Fld)])) (ys := ([((2, o.key) : Fld)])) F H rfl Tryz.underlying60 ty57 rfl rfl rfl rfl ((H.rd 27 rfl)) oI (F.t 22 rfl) (F.t 27 rfl) (by simp only [lN] at *; omega) (by simp only [lN, maxLen] at *; omega) (fun kb => (fun kb => (Value.slice (some ⟨b14, 0, none⟩) ([o.kind]).length ([o.kind]).length).ownBlock = some kb) kb ∨ (fun kb => (fun kb => kb = b25) kb ∨ kb = b27) kb) (fun w' v' h => h) (by rintro k_ (hk_ | hk_); exact .inl hk_; exact .inr hk_) ?_
  clear F H; intro a w v28 F H
  refine la F rfl (x_assign (F.t 28 rfl)) fun a F => wn (hK3 _ _ (sr fun _ hK7 => ?_))
  rw [show (([((1, [o.kind]) : Fld)]) ++ [((2, o.key) : Fld)]) = opF o from opF_1 (by omega) (by omega)] at H
  obtain ⟨Av, cv, rfl⟩ := (H.row 16 rfl).form
  refine la F rfl (x_move (F.t 3 rfl)) fun a F => ?_
  refine lp rfl ?_
  refine w_call F (x_enter Tryz.func34 (by kernel_rfl) rfl (by simp only [bM, F.t 60 rfl] <;> rfl)) (refEnc_at (Row.rd (ok' := fun k_ => (fun kb => (fun kb => (Value.slice (some ⟨b14, 0, none⟩) ([o.kind]).length ([o.kind]).length).ownBlock = some kb) kb ∨ (fun kb => (fun kb => kb = b25) kb ∨ kb = b27) kb) k_ ∨ (.slice Av (opF o).length cv : Value).ownBlock = some k_) (H.row 16 rfl) (fun _ hk_ _ => .inl hk_) (fun _ hk_ => .inr hk_)) (op_encR hb ho)) rfl rfl ?_
  rintro _ w ⟨vr61, er61, rfl, hm_, hr_⟩; refine ⟨_, rfl, ?_⟩; clear F; intro a F; have H := Hp.rowOut H 61 hm_ hr_; obtain ⟨Ar61, cr61, rfl⟩ := (H.row 61 rfl).form
  refine la F rfl (x_move (F.t 61 rfl)) fun a F => la F rfl (x_extract (F.t 59 rfl) rfl) fun a F => la F rfl (x_extract (F.t 59 rfl) rfl) fun a F => la F rfl (x_assign (F.t 62 rfl)) fun a F => la F rfl (x_assign (F.t 63 rfl)) fun a F => wn (hK7 _ _ (sr fun _ hK8 => la F rfl (x_move (F.t 9 rfl)) fun a F => ?_))
  refine la F rfl (x_assign (F.t 64 rfl)) fun a F => wn (hK8 _ _ ?_)
  refine wp_ret ?_
  try simp only [Exit.then, Exit.inBlock]
  exact fin_ret F (res1 F rfl rfl) ⟨_, rfl, H.mods, Hp.out H 61 rfl⟩
 have hk19_2 := hc19; try simp only [bL] at hc19
 refine wp_region_lit ?_
 refine la F rfl (x_eql (F.t 18 rfl) rfl) fun a F => la F rfl (x_assign (F.t 21 rfl)) fun a F => wn (hK5 _ _ ?_)
 refine wp_cond_split (F.t 19 rfl) (fun hc19 => ?_) (fun hc19 => ?_)
 ·have hk19_3 := hc19; try simp only [bL] at hc19
  refine wp_region_lit ?_
  refine la F rfl (x_move (F.t 3 rfl)) fun a F => la F rfl (x_faddr Tryz.underlying93 rfl ty9 (by decide) (F.t 1 rfl) rfl) fun a F => la F rfl (x_load1 ty9 (F.t 23 rfl) (blk_cell (H.at 1 rfl) 1 rfl)) fun a F => ?_
  refine lp rfl ?_
  refine w_s2b 25 (xs := o.key) F H rfl Tryz.underlying9 Tryz.underlying27 Tryz.underlying5 (F.t 24 rfl) hb.key (by have := (over_lens hb ho).1; omega) ?_
  clear F H; intro a w b25 c25 hb25_ F H
  refine la F rfl (x_buildS (cells := #[.int .i64 2, .slice (some ⟨b25, 0, none⟩) o.key.length c25]) (places := #[(0, 1), (1, 1)]) Tryz.underlying57 ty57 (by kernel_rfl) (by simp only [bM, F.t 25 rfl] <;> rfl) rfl) fun a F => ?_
  refine lp rfl ?_
  refine w_lit1 27 FE ((2, o.key) : Fld) #[.int .i64 2, .slice (some ⟨b25, 0, none⟩) o.key.length c25] (fun kb => kb = b25) F H rfl Tryz.underlying60 ty57 (by simp only [bM, F.t 26 rfl] <;> rfl) (by decide) (by kernel_rfl) (fld_mk (f := ((2, o.key) : Fld)) ((H.rd 25 rfl))) (fun kb hk => ⟨25, _, rfl, hk⟩) ?_
  clear F H; intro a w b27 F hb27_ H
  refine lp rfl ?_
  refine w_append 16 27 (xs := ([((1, [o.kind]) : Fld)])) (ys := ([((2, o.key) : Fld)])) F H rfl Tryz.underlying60 ty57 rfl rfl rfl rfl ((H.rd 27 rfl)) oI (F.t 22 rfl) (F.t 27 rfl) (by simp only [lN] at *; omega) (by simp only [lN, maxLen] at *; omega) (fun kb => (fun kb => (Value.slice (some ⟨b14, 0, none⟩) ([o.kind]).length ([o.kind]).length).ownBlock = some kb) kb ∨ (fun kb => (fun kb => kb = b25) kb ∨ kb = b27) kb) (fun w' v' h => h) (by rintro k_ (hk_ | hk_); exact .inl hk_; exact .inr hk_) ?_
  clear F H; intro a w v28 F H
  refine la F rfl (x_assign (F.t 28 rfl)) fun a F => wn (hK3 _ _ (sr fun _ hK9 => ?_))
  rw [show (([((1, [o.kind]) : Fld)]) ++ [((2, o.key) : Fld)]) = opF o from opF_1 (by omega) (by omega)] at H
  obtain ⟨Av, cv, rfl⟩ := (H.row 16 rfl).form
  refine la F rfl (x_move (F.t 3 rfl)) fun a F => ?_
  refine lp rfl ?_
  refine w_call F (x_enter Tryz.func34 (by kernel_rfl) rfl (by simp only [bM, F.t 60 rfl] <;> rfl)) (refEnc_at (Row.rd (ok' := fun k_ => (fun kb => (fun kb => (Value.slice (some ⟨b14, 0, none⟩) ([o.kind]).length ([o.kind]).length).ownBlock = some kb) kb ∨ (fun kb => (fun kb => kb = b25) kb ∨ kb = b27) kb) k_ ∨ (.slice Av (opF o).length cv : Value).ownBlock = some k_) (H.row 16 rfl) (fun _ hk_ _ => .inl hk_) (fun _ hk_ => .inr hk_)) (op_encR hb ho)) rfl rfl ?_
  rintro _ w ⟨vr61, er61, rfl, hm_, hr_⟩; refine ⟨_, rfl, ?_⟩; clear F; intro a F; have H := Hp.rowOut H 61 hm_ hr_; obtain ⟨Ar61, cr61, rfl⟩ := (H.row 61 rfl).form
  refine la F rfl (x_move (F.t 61 rfl)) fun a F => la F rfl (x_extract (F.t 59 rfl) rfl) fun a F => la F rfl (x_extract (F.t 59 rfl) rfl) fun a F => la F rfl (x_assign (F.t 62 rfl)) fun a F => la F rfl (x_assign (F.t 63 rfl)) fun a F => wn (hK9 _ _ (sr fun _ hK10 => la F rfl (x_move (F.t 9 rfl)) fun a F => ?_))
  refine la F rfl (x_assign (F.t 64 rfl)) fun a F => wn (hK10 _ _ ?_)
  refine wp_ret ?_
  try simp only [Exit.then, Exit.inBlock]
  exact fin_ret F (res1 F rfl rfl) ⟨_, rfl, H.mods, Hp.out H 61 rfl⟩
 have hk19_4 := hc19; try simp only [bL] at hc19
 refine sr fun _ hK11 => la F rfl (x_eql (F.t 18 rfl) rfl) fun a F => la F rfl (x_assign (F.t 30 rfl)) fun a F => wn (hK11 _ _ ?_)
 refine wp_cond_split (F.t 29 rfl) (fun hc29 => ?_) (fun hc29 => ?_)
 ·have hk29_5 := hc29; try simp only [bL] at hc29
  refine sr fun _ hK12 => la F rfl (x_faddr Tryz.underlying93 rfl ty91 (by decide) (F.t 1 rfl) rfl) fun a F => la F rfl (x_loadn (cs := #[.int .i64 o.step.1, .string (strOfNums o.step.2.1), .string (strOfNums o.step.2.2.1), .int .i64 o.step.2.2.2]) ty91 (F.t 32 rfl) rfl (blk_sub (H.at 1 rfl) 2 4 rfl)) fun a F => ?_
  refine lp rfl ?_
  refine w_lit1 34 StE o.step #[.int .i64 o.step.1, .string (strOfNums o.step.2.1), .string (strOfNums o.step.2.2.1), .int .i64 o.step.2.2.2] (fun _ => False) F H rfl Tryz.underlying62 ty91 (by simp only [bM, F.t 33 rfl] <;> rfl) (by decide) (by kernel_rfl) (st_mk (o.step : StepD)) (fun kb hk => hk.elim) ?_
  clear F H; intro a w b34 F hb34_ H
  refine lp rfl ?_
  refine w_call F (x_enter Tryz.func70 (by kernel_rfl) rfl (by simp only [bM, F.t 34 rfl] <;> rfl)) (raenc_calls (xs := [o.step]) _ ((H.rd 34 rfl)) (fun s hs_ => by rw [List.mem_singleton.1 hs_]; exact hb.step)) rfl rfl ?_
  rintro _ w ⟨vr35, rfl, hm_, hr_⟩; refine ⟨_, rfl, ?_⟩; clear F; intro a F; have H := Hp.rowOut H 35 hm_ hr_; obtain ⟨Ar35, cr35, rfl⟩ := (H.row 35 rfl).form
  refine la F rfl (x_move (F.t 35 rfl)) fun a F => la F rfl (x_extract (F.t 31 rfl) rfl) fun a F => la F rfl (x_extract (F.t 31 rfl) rfl) fun a F => la F rfl (x_assign (F.t 36 rfl)) fun a F => ?_
  have H := H.freeze 35 rfl (fun kb => (Value.slice Ar35 (encT [o.step]).length cr35).ownBlock = some kb) (fun kb => ⟨fun h => .inr h, fun h => h.resolve_left id⟩)
  refine la F rfl (x_assign (F.t 37 rfl)) fun a F => wn (hK12 _ _ ?_)
  refine wp_region_lit ?_
  refine la F rfl (x_move (F.t 3 rfl)) fun a F => la F rfl (x_move (F.t 4 rfl)) fun a F => la F rfl (x_buildS (cells := #[.int .i64 3, .slice Ar35 (encT [o.step]).length cr35]) (places := #[(0, 1), (1, 1)]) Tryz.underlying57 ty57 (by kernel_rfl) (by simp only [bM, F.t 39 rfl] <;> rfl) rfl) fun a F => ?_
  refine lp rfl ?_
  refine w_lit1 41 FE ((3, (encT [o.step])) : Fld) #[.int .i64 3, .slice Ar35 (encT [o.step]).length cr35] (fun kb => (Value.slice Ar35 (encT [o.step]).length cr35).ownBlock = some kb) F H rfl Tryz.underlying60 ty57 (by simp only [bM, F.t 40 rfl] <;> rfl) (by decide) (by kernel_rfl) (fld_mk (f := ((3, (encT [o.step])) : Fld)) ((H.rd 35 rfl))) (fun kb hk => ⟨35, _, rfl, hk⟩) ?_
  clear F H; intro a w b41 F hb41_ H
  refine lp rfl ?_
  refine w_append 16 41 (xs := ([((1, [o.kind]) : Fld)])) (ys := ([((3, (encT [o.step])) : Fld)])) F H rfl Tryz.underlying60 ty57 rfl rfl rfl rfl ((H.rd 41 rfl)) oI (F.t 38 rfl) (F.t 41 rfl) (by simp only [lN] at *; omega) (by simp only [lN, maxLen] at *; omega) (fun kb => (fun kb => (Value.slice (some ⟨b14, 0, none⟩) ([o.kind]).length ([o.kind]).length).ownBlock = some kb) kb ∨ (fun kb => (fun kb => (Value.slice Ar35 (encT [o.step]).length cr35).ownBlock = some kb) kb ∨ kb = b41) kb) (fun w' v' h => h) (by rintro k_ (hk_ | hk_); exact .inl hk_; exact .inr hk_) ?_
  clear F H; intro a w v42 F H
  refine la F rfl (x_assign (F.t 42 rfl)) fun a F => wn (hK3 _ _ (sr fun _ hK13 => ?_))
  rw [show (([((1, [o.kind]) : Fld)]) ++ [((3, (encT [o.step])) : Fld)]) = opF o from opF_2 (by omega)] at H
  obtain ⟨Av, cv, rfl⟩ := (H.row 16 rfl).form
  refine la F rfl (x_move (F.t 3 rfl)) fun a F => ?_
  refine lp rfl ?_
  refine w_call F (x_enter Tryz.func34 (by kernel_rfl) rfl (by simp only [bM, F.t 60 rfl] <;> rfl)) (refEnc_at (Row.rd (ok' := fun k_ => (fun kb => (fun kb => (Value.slice (some ⟨b14, 0, none⟩) ([o.kind]).length ([o.kind]).length).ownBlock = some kb) kb ∨ (fun kb => (fun kb => (Value.slice Ar35 (encT [o.step]).length cr35).ownBlock = some kb) kb ∨ kb = b41) kb) k_ ∨ (.slice Av (opF o).length cv : Value).ownBlock = some k_) (H.row 16 rfl) (fun _ hk_ _ => .inl hk_) (fun _ hk_ => .inr hk_)) (op_encR hb ho)) rfl rfl ?_
  rintro _ w ⟨vr61, er61, rfl, hm_, hr_⟩; refine ⟨_, rfl, ?_⟩; clear F; intro a F; have H := Hp.rowOut H 61 hm_ hr_; obtain ⟨Ar61, cr61, rfl⟩ := (H.row 61 rfl).form
  refine la F rfl (x_move (F.t 61 rfl)) fun a F => la F rfl (x_extract (F.t 59 rfl) rfl) fun a F => la F rfl (x_extract (F.t 59 rfl) rfl) fun a F => la F rfl (x_assign (F.t 62 rfl)) fun a F => la F rfl (x_assign (F.t 63 rfl)) fun a F => wn (hK13 _ _ (sr fun _ hK14 => la F rfl (x_move (F.t 9 rfl)) fun a F => ?_))
  refine la F rfl (x_assign (F.t 64 rfl)) fun a F => wn (hK14 _ _ ?_)
  refine wp_ret ?_
  try simp only [Exit.then, Exit.inBlock]
  exact fin_ret F (res1 F rfl rfl) ⟨_, rfl, H.mods, Hp.out H 61 rfl⟩
 have hk29_6 := hc29; try simp only [bL] at hc29
 refine sr fun _ hK15 => la F rfl (x_eql (F.t 18 rfl) rfl) fun a F => la F rfl (x_assign (F.t 44 rfl)) fun a F => wn (hK15 _ _ ?_)
 refine wp_cond_true ((F.t 43 rfl).trans (by rw [decide_eq_true (by omega)])) ?_
 refine sr fun _ hK16 => la F rfl (x_faddr Tryz.underlying93 rfl ty64 (by decide) (F.t 1 rfl) rfl) fun a F => la F rfl (x_loadn (cs := #[.string (strOfNums o.timer.name), .int .i64 o.timer.ver, .int .u64 o.timer.tick, .int .u64 o.timer.every, .slice Ao0 o.timer.steps.length co0]) ty64 (F.t 45 rfl) rfl (blk_sub (H.at 1 rfl) 6 5 rfl)) fun a F => ?_
 refine lp rfl ?_
 refine w_alloc 6 F H rfl ty64 ?_
 clear F H; intro a w b6 F H
 refine lp rfl ?_
 refine w_storeA 6 H ty64 rfl (F.t 6 rfl) (F.t 46 rfl) rfl (by simp [Value.cells, Value.oneCell']) rfl ?_
 clear H; intro w H
 refine wn (hK16 _ _ (sr fun _ hK17 => la F rfl (x_faddr Tryz.underlying64 rfl ty3 (by decide) (F.t 6 rfl) rfl) fun a F => ?_))
 refine lp rfl ?_
 refine w_store 6 H ty3 rfl (F.t 47 rfl) rfl rfl (one1 rfl rfl) (by first | decide | exact Nat.le_of_ble_eq_true rfl) ?_
 clear H; intro w H
 refine wn (hK17 _ _ (sr fun _ hK18 => la F rfl (x_loadn ty64 (F.t 6 rfl) rfl (blk_whole (H.at 6 rfl))) fun a F => la F rfl (x_buildS (cells := #[.int .i64 3, .string (strOfNums []), .string (strOfNums []), .string (strOfNums o.timer.name), .int .i64 1, .int .u64 o.timer.tick, .int .u64 o.timer.every, .slice Ao0 o.timer.steps.length co0]) (places := #[(0, 1), (1, 1), (2, 1), (3, 5)]) Tryz.underlying66 ty66 (by kernel_rfl) (by simp only [bM, F.t 49 rfl] <;> rfl) (by first | (simp [Instr.fill, Value.cells]; done) | rfl)) fun a F => ?_))
 refine lp rfl ?_
 refine w_call F (x_enter Tryz.func33 (by kernel_rfl) rfl (by simp only [bM, F.t 50 rfl] <;> rfl)) (rencC_calls (c := armC o) _ ((H.rd 900 rfl)) (armC_B hb)) rfl rfl ?_
 rintro _ w ⟨vr51, rfl, hm_, hr_⟩; refine ⟨_, rfl, ?_⟩; clear F; intro a F; have H := Hp.rowOut H 51 hm_ hr_; obtain ⟨Ar51, cr51, rfl⟩ := (H.row 51 rfl).form
 refine la F rfl (x_move (F.t 51 rfl)) fun a F => la F rfl (x_extract (F.t 48 rfl) rfl) fun a F => la F rfl (x_extract (F.t 48 rfl) rfl) fun a F => la F rfl (x_assign (F.t 52 rfl)) fun a F => ?_
 have H := H.freeze 51 rfl (fun kb => (Value.slice Ar51 (encC (armC o)).length cr51).ownBlock = some kb) (fun kb => ⟨fun h => .inr h, fun h => h.resolve_left id⟩)
 refine la F rfl (x_assign (F.t 53 rfl)) fun a F => wn (hK18 _ _ ?_)
 refine wp_region_lit ?_
 refine la F rfl (x_move (F.t 3 rfl)) fun a F => la F rfl (x_move (F.t 7 rfl)) fun a F => la F rfl (x_buildS (cells := #[.int .i64 4, .slice Ar51 (encC (armC o)).length cr51]) (places := #[(0, 1), (1, 1)]) Tryz.underlying57 ty57 (by kernel_rfl) (by simp only [bM, F.t 55 rfl] <;> rfl) rfl) fun a F => ?_
 refine lp rfl ?_
 refine w_lit1 57 FE ((4, (encC (armC o))) : Fld) #[.int .i64 4, .slice Ar51 (encC (armC o)).length cr51] (fun kb => (Value.slice Ar51 (encC (armC o)).length cr51).ownBlock = some kb) F H rfl Tryz.underlying60 ty57 (by simp only [bM, F.t 56 rfl] <;> rfl) (by decide) (by kernel_rfl) (fld_mk (f := ((4, (encC (armC o))) : Fld)) ((H.rd 51 rfl))) (fun kb hk => ⟨51, _, rfl, hk⟩) ?_
 clear F H; intro a w b57 F hb57_ H
 refine lp rfl ?_
 refine w_append 16 57 (xs := ([((1, [o.kind]) : Fld)])) (ys := ([((4, (encC (armC o))) : Fld)])) F H rfl Tryz.underlying60 ty57 rfl rfl rfl rfl ((H.rd 57 rfl)) oI (F.t 54 rfl) (F.t 57 rfl) (by simp only [lN] at *; omega) (by simp only [lN, maxLen] at *; omega) (fun kb => (fun kb => (Value.slice (some ⟨b14, 0, none⟩) ([o.kind]).length ([o.kind]).length).ownBlock = some kb) kb ∨ (fun kb => (fun kb => (Value.slice Ar51 (encC (armC o)).length cr51).ownBlock = some kb) kb ∨ kb = b57) kb) (fun w' v' h => h) (by rintro k_ (hk_ | hk_); exact .inl hk_; exact .inr hk_) ?_
 clear F H; intro a w v58 F H
 refine la F rfl (x_assign (F.t 58 rfl)) fun a F => wn (hK3 _ _ (sr fun _ hK19 => ?_))
 rw [show (([((1, [o.kind]) : Fld)]) ++ [((4, (encC (armC o))) : Fld)]) = opF o from opF_3 (by omega) (by omega)] at H
 obtain ⟨Av, cv, rfl⟩ := (H.row 16 rfl).form
 refine la F rfl (x_move (F.t 3 rfl)) fun a F => ?_
 refine lp rfl ?_
 refine w_call F (x_enter Tryz.func34 (by kernel_rfl) rfl (by simp only [bM, F.t 60 rfl] <;> rfl)) (refEnc_at (Row.rd (ok' := fun k_ => (fun kb => (fun kb => (Value.slice (some ⟨b14, 0, none⟩) ([o.kind]).length ([o.kind]).length).ownBlock = some kb) kb ∨ (fun kb => (fun kb => (Value.slice Ar51 (encC (armC o)).length cr51).ownBlock = some kb) kb ∨ kb = b57) kb) k_ ∨ (.slice Av (opF o).length cv : Value).ownBlock = some k_) (H.row 16 rfl) (fun _ hk_ _ => .inl hk_) (fun _ hk_ => .inr hk_)) (op_encR hb ho)) rfl rfl ?_
 rintro _ w ⟨vr61, er61, rfl, hm_, hr_⟩; refine ⟨_, rfl, ?_⟩; clear F; intro a F; have H := Hp.rowOut H 61 hm_ hr_; obtain ⟨Ar61, cr61, rfl⟩ := (H.row 61 rfl).form
 refine la F rfl (x_move (F.t 61 rfl)) fun a F => la F rfl (x_extract (F.t 59 rfl) rfl) fun a F => la F rfl (x_extract (F.t 59 rfl) rfl) fun a F => la F rfl (x_assign (F.t 62 rfl)) fun a F => la F rfl (x_assign (F.t 63 rfl)) fun a F => wn (hK19 _ _ (sr fun _ hK20 => la F rfl (x_move (F.t 9 rfl)) fun a F => ?_))
 refine la F rfl (x_assign (F.t 64 rfl)) fun a F => wn (hK20 _ _ ?_)
 refine wp_ret ?_
 try simp only [Exit.then, Exit.inBlock]
 exact fin_ret F (res1 F rfl rfl) ⟨_, rfl, H.mods, Hp.out H 61 rfl⟩
theorem rencQ_calls (w0 : World) {r : SReqD} {okr0 : Nat → Prop} {Ar0 : Option Addr} {cr0 : Nat} (hrr0 : Rd OpdE w0 okr0 Ar0 r.ops cr0) (hb : SReqB r) : Calls Tryz.prog 17 #[.agg #[.string (strOfNums r.client), .int .i64 r.num, .slice Ar0 r.ops.length cr0]] w0 fun e w' => ∃ v, e = .returned (.tuple #[v, .int .i64 (encQE r)]) ∧ Mods (fun _ => False) w0 w' ∧ RowOut (.int .u8) 5 w0 w' v (encQ r) := by
 refine cow Tryz.func17 rfl Tryz.ntmps17 (Nat.le_of_ble_eq_true rfl) fun a F => ?_
 have H := Hp.nil (fun _ => False) w0
 have H := H.arg 900 hrr0.all (fun _ h => ⟨h, fun h => h⟩)
 have hler0 := hrr0.le; unfold maxLen at hler0
 refine sr fun _ hK1 => ?_
 refine lp rfl ?_
 refine w_box 1 F H rfl (F.t 0 rfl) ?_
 clear F H; intro a w b1 F H
 refine la F rfl (x_assign rfl) fun a F => la F rfl (x_assign rfl) fun a F => wn (hK1 _ _ (sr fun _ hK2 => la F rfl (x_loadn ty43 (F.t 1 rfl) rfl (blk_whole (H.at 1 rfl))) fun a F => ?_))
 refine lp rfl ?_
 refine w_call F (x_enter Tryz.func26 (by kernel_rfl) rfl (by simp only [bM, F.t 10 rfl] <;> rfl)) (r22right_calls (r := r) _ ((H.rd 900 rfl)) hb) rfl rfl ?_
 rintro _ w ⟨rfl, hm_⟩; refine ⟨_, rfl, ?_⟩; clear F; intro a F; have H := H.same hm_
 refine la F rfl (x_assign (F.t 11 rfl)) fun a F => wn (hK2 _ _ ?_)
 refine wp_seq_k fun _ hK3 => ?_
 refine sr fun _ hK4 => la F rfl (x_move (F.t 4 rfl)) fun a F => la F rfl (x_not (F.t 12 rfl)) fun a F => wn (hK4 _ _ ?_)
 refine wp_cond_split (F.t 13 rfl) (fun hc13 => ?_) (fun hc13 => ?_)
 ·have hk13_1 := hc13; try simp only [bL] at hc13
  have hz : rightQ r = false := by simpa using hc13
  refine sr fun _ hK5 => la F rfl (x_assign rfl) fun a F => la F rfl (x_assign rfl) fun a F => wn (hK5 _ _ ?_)
  refine wp_ret ?_
  try simp only [Exit.then, Exit.inBlock]
  exact fin_ret F (res2 F rfl rfl rfl) ⟨.slice none 0 0, by rw [encQE_no hz] <;> rfl, H.mods, by rw [encQ_no hz]; exact RowOut.nil _ _ _ _⟩
 have hk13_2 := hc13; try simp only [bL] at hc13
 have hr : rightQ r = true := by simpa using hc13
 refine wp_skip (hK3 _ _ ?_)
 refine wp_seq_k fun _ hK6 => ?_
 refine r_start [(1, .blk b1 (.cells #[.string (strOfNums r.client), .int .i64 r.num, .slice Ar0 r.ops.length cr0] 43 (0, 0)))] (by kernel_rfl) H fun H => ?_
 have hS : SL [(1, .blk b1 (.cells #[.string (strOfNums r.client), .int .i64 r.num, .slice Ar0 r.ops.length cr0] 43 (0, 0)))] _ := SL.of H (sub_cons (sub_nil _) 1 rfl)
 refine rT 0 F rfl (by kernel_rfl) pq rfl hS (fun w hS => x_faddr Tryz.underlying43 rfl ty9 (by decide) (F.t 1 rfl) rfl) rfl fun a F => ?_
 refine rT 1 F rfl (by kernel_rfl) pq rfl hS (fun w hS => x_load1 ty9 (F.t 14 rfl) (blk_cell (SL.at_ hS 1 rfl) 0 rfl)) rfl fun a F => ?_
 refine rT 4 F rfl (by kernel_rfl) pq rfl hS (fun w hS => x_faddr Tryz.underlying43 rfl ty3 (by decide) (F.t 1 rfl) rfl) rfl fun a F => ?_
 refine rT 5 F rfl (by kernel_rfl) pq rfl hS (fun w hS => x_load1 ty3 (F.t 18 rfl) (blk_cell (SL.at_ hS 1 rfl) 1 rfl)) rfl fun a F => ?_
 refine rT 6 F rfl (by kernel_rfl) pq rfl hS (fun w hS => x_conv Tryz.underlying59 ⟨_, Tryz.underlying3⟩ (F.t 19 rfl) (wu64 (by have := (rightQ_parts hr); omega) (by have := (rightQ_parts hr); omega))) rfl fun a F => ?_
 refine r_do2 2 7 rfl rfl (by kernel_rfl) rfl rfl rfl rfl ?_ ?_
 ·
  refine w_s2b 16 (xs := r.client) F H rfl Tryz.underlying9 Tryz.underlying27 Tryz.underlying5 (F.t 15 rfl) hb.client (by have := (rightQ_parts hr); omega) ?_
  clear F H; intro a w b16 c16 hb16_ F H
  refine aN (SL.of H (sub_cons (sub_nil _) 1 rfl)) fun hS => ?_
  refine rT 3 F rfl (by kernel_rfl) pq rfl hS (fun w hS => x_buildS (cells := #[.int .i64 1, .slice (some ⟨b16, 0, none⟩) r.client.length c16]) (places := #[(0, 1), (1, 1)]) Tryz.underlying57 ty57 (by kernel_rfl) (by simp only [bM, F.t 16 rfl] <;> rfl) rfl) rfl fun a F => ?_
  refine r_do 7 rfl (by kernel_rfl) rfl rfl ?_
  refine w_call F (x_enter Tryz.func32 (by kernel_rfl) rfl (by simp only [bM, F.t 20 rfl] <;> rfl)) (rbI_calls _ (by have := (rightQ_parts hr); exact ⟨by omega, by omega⟩)) rfl rfl ?_
  rintro _ w ⟨vr21, rfl, hm_, hr_⟩; refine ⟨_, rfl, ?_⟩; clear F; intro a F; have H := Hp.rowOut H 21 hm_ hr_; obtain ⟨Ar21, cr21, rfl⟩ := (H.row 21 rfl).form
  refine aN (SL.of H (sub_cons (sub_nil _) 1 rfl)) fun hS => ?_
  have H := H.freeze 21 rfl (fun kb => (Value.slice Ar21 (bI r.num).length cr21).ownBlock = some kb) (fun kb => ⟨fun h => .inr h, fun h => h.resolve_left id⟩)
  refine rT 8 F rfl (by kernel_rfl) pq rfl hS (fun w hS => x_buildS (cells := #[.int .i64 2, .slice Ar21 (bI r.num).length cr21]) (places := #[(0, 1), (1, 1)]) Tryz.underlying57 ty57 (by kernel_rfl) (by simp only [bM, F.t 21 rfl] <;> rfl) rfl) rfl fun a F => ?_
  refine r_do 9 rfl (by kernel_rfl) rfl rfl ?_
  refine w_litE 5 FE ([((1, r.client) : Fld), ((2, bI r.num) : Fld)]) #[.int .i64 1, .slice (some ⟨b16, 0, none⟩) r.client.length c16, .int .i64 2, .slice Ar21 (bI r.num).length cr21] (fun kb => (fun kb => kb = b16) kb ∨ (fun kb => (Value.slice Ar21 (bI r.num).length cr21).ownBlock = some kb) kb) F H rfl Tryz.underlying60 ty57 (by simp only [bM, F.t 17 rfl, F.t 22 rfl] <;> rfl) rfl (by decide) (by decide) (by kernel_rfl) ((Elems.single (fld_mk (f := ((1, r.client) : Fld)) (((H.rd 16 rfl)).move (fun _ _ _ => rfl) (fun k h _ => .inl h)))).append (Elems.single (fld_mk (f := ((2, bI r.num) : Fld)) (((H.rd 21 rfl)).move (fun _ _ _ => rfl) (fun k h _ => .inr h))))) (fun kb hk => hk.elim (fun h => ⟨16, _, rfl, h⟩) (fun h => ⟨21, _, rfl, h⟩)) ?_
  clear F H; intro a w b23 F H
  refine aN (SL.of H (sub_cons (sub_nil _) 1 rfl)) fun hS => ?_
  refine rT 10 F rfl (by kernel_rfl) pq rfl hS (fun w hS => x_assign (F.t 23 rfl)) rfl fun a F => ?_
  refine r_end (by kernel_rfl) ?_; clear hS
  refine hK6 _ _ ?_
  refine wp_seq_k fun _ hK7 => ?_
  refine sr fun _ hK8 => la F rfl (x_assign rfl) fun a F => wn (hK8 _ _ (wp_block ?_))
  refine wp_loop_ghost (fun n_ a w => ∃ k : Nat, ∃ v5 : Value, ∃ okv : Nat → Prop, n_ = r.ops.length - k ∧ (k ≤ r.ops.length) ∧ Fr 62 a [(1, .pointer (some ⟨b1, 0, none⟩)), (5, v5), (6, .int .i64 (k : Int))] ∧ Hp (fun _ => False) w0 w [(900, .rd_ OpdE Ar0 r.ops cr0 (fun k => k < w0.heap.size)), (1, .blk b1 (.cells #[.string (strOfNums r.client), .int .i64 r.num, .slice Ar0 r.ops.length cr0] 43 (0, 0))), (16, .rd_ (.int .u8) (some ⟨b16, 0, none⟩) r.client c16 (fun kb => kb = b16)), (21, .rd_ (.int .u8) Ar21 (bI r.num) cr21 (fun kb => (Value.slice Ar21 (bI r.num).length cr21).ownBlock = some kb)), (5, .row FE 57 v5 ([((1, r.client) : Fld), ((2, bI r.num) : Fld)] ++ (r.ops.take k).map (fun o => ((3, opI o) : Fld))) okv)]) (r.ops.length) ?_ ?_
  ·exact ⟨0, .slice (some ⟨b23, 0, none⟩) ([((1, r.client) : Fld), ((2, bI r.num) : Fld)]).length ([((1, r.client) : Fld), ((2, bI r.num) : Fld)]).length, (fun kb => (fun kb => kb = b16) kb ∨ (fun kb => (Value.slice Ar21 (bI r.num).length cr21).ownBlock = some kb) kb), rfl, by omega, (((F.bare.add F 6 rfl).add F 5 rfl).add F 1 rfl), H.sub _ (sub_cons (sub_cons (sub_cons (sub_cons (sub_cons (sub_nil _) 5 rfl) 21 rfl) 16 rfl) 1 rfl) 900 rfl)⟩
  rintro _ a w ⟨k, v5, okv, rfl, hq0_0, F, H⟩
  refine wp_seq_k fun _ hK9 => ?_
  refine sr fun _ hK10 => la F rfl (x_move (F.t 6 rfl)) fun a F => la F rfl (x_faddr Tryz.underlying43 rfl ty37 (by decide) (F.t 1 rfl) rfl) fun a F => la F rfl (x_load1 ty37 (F.t 25 rfl) (blk_cell (H.at 1 rfl) 2 rfl)) fun a F => la F rfl (x_len_slice Tryz.underlying37 (F.t 26 rfl)) fun a F => la F rfl (x_lss (F.t 24 rfl) (F.t 27 rfl)) fun a F => wn (hK10 _ _ ?_)
  refine wp_cond_split (F.t 28 rfl) (fun hc28 => ?_) (fun hc28 => ?_)
  ·have hk28_3 := hc28; try simp only [bL] at hc28
   refine wp_skip (hK9 _ _ ?_)
   refine wp_seq_k fun _ hK11 => ?_
   refine wp_block ?_
   refine wp_region_lit ?_
   obtain ⟨fA1, fc1, hfr1, hf1_0, hf1_1, hf1_2, hf1_3, hf1_4, hf1_5, hf1_6, hf1_7, hf1_8, hf1_9, hf1_10, hfw1⟩ := rd_opd ((H.rd 900 rfl)) (gopd_some (xs := r.ops) (i := (k : Int)) (by omega) (by omega))
   have H := H.subrd 900 rfl 1010 hfr1 (fun _ h => h)
   have H := H.subcels 900 rfl 1499 hfw1 (Rd.inok ((H.rd 900 rfl)) (by omega) _)
   have H := H.subcel 900 rfl 1500 hf1_0 (Rd.inok ((H.rd 900 rfl)) (by omega) _)
   have H := H.subcel 900 rfl 1501 hf1_1 (Rd.inok ((H.rd 900 rfl)) (by omega) _)
   have H := H.subcel 900 rfl 1502 hf1_2 (Rd.inok ((H.rd 900 rfl)) (by omega) _)
   have H := H.subcel 900 rfl 1503 hf1_3 (Rd.inok ((H.rd 900 rfl)) (by omega) _)
   have H := H.subcel 900 rfl 1504 hf1_4 (Rd.inok ((H.rd 900 rfl)) (by omega) _)
   have H := H.subcel 900 rfl 1505 hf1_5 (Rd.inok ((H.rd 900 rfl)) (by omega) _)
   have H := H.subcel 900 rfl 1506 hf1_6 (Rd.inok ((H.rd 900 rfl)) (by omega) _)
   have H := H.subcel 900 rfl 1507 hf1_7 (Rd.inok ((H.rd 900 rfl)) (by omega) _)
   have H := H.subcel 900 rfl 1508 hf1_8 (Rd.inok ((H.rd 900 rfl)) (by omega) _)
   have H := H.subcel 900 rfl 1509 hf1_9 (Rd.inok ((H.rd 900 rfl)) (by omega) _)
   have H := H.subcel 900 rfl 1510 hf1_10 (Rd.inok ((H.rd 900 rfl)) (by omega) _)
   have hmem := gopd_mem (xs := r.ops) (j := k) (by omega)
   refine la F rfl (x_move (F.t 5 rfl)) fun a F => la F rfl (x_faddr Tryz.underlying43 rfl ty37 (by decide) (F.t 1 rfl) rfl) fun a F => la F rfl (x_load1 ty37 (F.t 32 rfl) (blk_cell (H.at 1 rfl) 2 rfl)) fun a F => la F rfl (x_move (F.t 6 rfl)) fun a F => la F rfl (x_iaddr_A Tryz.underlying37 ty93 ((H.rd 900 rfl)) (F.t 33 rfl) (F.t 34 rfl) (by omega) (by omega) _) fun a F => la F rfl (x_loadn ty93 (F.t 35 rfl) rfl (H.holds 1499 _ rfl)) fun a F => ?_
   refine lp rfl ?_
   refine w_call F (x_enter Tryz.func55 (by kernel_rfl) rfl (by simp only [bM, F.t 36 rfl] <;> rfl)) (rop_calls (o := (gopd r.ops (k : Int))) _ ((H.rd 1010 rfl)) (hb.ops _ hmem) (rightQ_op hb hr hmem)) rfl rfl ?_
   rintro _ w ⟨vr37, rfl, hm_, hr_⟩; refine ⟨_, rfl, ?_⟩; clear F; intro a F; have H := Hp.rowOut H 37 hm_ hr_; obtain ⟨Ar37, cr37, rfl⟩ := (H.row 37 rfl).form
   have H := H.freeze 37 rfl (fun kb => (Value.slice Ar37 (opI (gopd r.ops (k : Int))).length cr37).ownBlock = some kb) (fun kb => ⟨fun h => .inr h, fun h => h.resolve_left id⟩)
   refine la F rfl (x_buildS (cells := #[.int .i64 3, .slice Ar37 (opI (gopd r.ops (k : Int))).length cr37]) (places := #[(0, 1), (1, 1)]) Tryz.underlying57 ty57 (by kernel_rfl) (by simp only [bM, F.t 37 rfl] <;> rfl) rfl) fun a F => ?_
   refine lp rfl ?_
   refine w_lit1 39 FE ((3, (opI (gopd r.ops (k : Int)))) : Fld) #[.int .i64 3, .slice Ar37 (opI (gopd r.ops (k : Int))).length cr37] (fun kb => (Value.slice Ar37 (opI (gopd r.ops (k : Int))).length cr37).ownBlock = some kb) F H rfl Tryz.underlying60 ty57 (by simp only [bM, F.t 38 rfl] <;> rfl) (by decide) (by kernel_rfl) (fld_mk (f := ((3, (opI (gopd r.ops (k : Int)))) : Fld)) ((H.rd 37 rfl))) (fun kb hk => ⟨37, _, rfl, hk⟩) ?_
   clear F H; intro a w b39 F hb39_ H
   refine lp rfl ?_
   refine w_append 5 39 (xs := ([((1, r.client) : Fld), ((2, bI r.num) : Fld)] ++ (r.ops.take k).map (fun o => ((3, opI o) : Fld)))) (ys := ([((3, (opI (gopd r.ops (k : Int)))) : Fld)])) F H rfl Tryz.underlying60 ty57 rfl rfl rfl rfl ((H.rd 39 rfl)) oI (F.t 31 rfl) (F.t 39 rfl) (by have := (rightQ_parts hr); simp only [List.length_append, List.length_nil, List.length_cons, List.length_map, List.length_take] at *; omega) (by have := (rightQ_parts hr); simp only [List.length_append, List.length_nil, List.length_cons, List.length_map, List.length_take, maxLen] at *; omega) (fun kb => okv kb ∨ (fun kb => (fun kb => (Value.slice Ar37 (opI (gopd r.ops (k : Int))).length cr37).ownBlock = some kb) kb ∨ kb = b39) kb) (fun w' v' h => h) (by rintro k_ (hk_ | hk_); exact .inl hk_; exact .inr hk_) ?_
   clear F H; intro a w v40 F H
   refine la F rfl (x_assign (F.t 40 rfl)) fun a F => wn (hK11 _ _ ?_)
   refine wp_region_lit ?_
   refine la F rfl (x_move (F.t 6 rfl)) fun a F => la F rfl (x_add (F.t 29 rfl) rfl (w64 (by omega) (by omega))) fun a F => la F rfl (x_assign (F.t 30 rfl)) fun a F => ?_
   refine wpList_nil ?_
   have hHs : Hp (fun _ => False) w0 w [(900, .rd_ OpdE Ar0 r.ops cr0 (fun k => k < w0.heap.size)), (1, .blk b1 (.cells #[.string (strOfNums r.client), .int .i64 r.num, .slice Ar0 r.ops.length cr0] 43 (0, 0))), (16, .rd_ (.int .u8) (some ⟨b16, 0, none⟩) r.client c16 (fun kb => kb = b16)), (21, .rd_ (.int .u8) Ar21 (bI r.num) cr21 (fun kb => (Value.slice Ar21 (bI r.num).length cr21).ownBlock = some kb)), (5, .row FE 57 v40 (([((1, r.client) : Fld), ((2, bI r.num) : Fld)] ++ (r.ops.take k).map (fun o => ((3, opI o) : Fld))) ++ [((3, opI (gopd r.ops (k : Int))) : Fld)]) (fun kb => okv kb ∨ (fun kb => (fun kb => (Value.slice Ar37 (opI (gopd r.ops (k : Int))).length cr37).ownBlock = some kb) kb ∨ kb = b39) kb))] := H.sub _ (sub_cons (sub_cons (sub_cons (sub_cons (sub_cons (sub_nil _) 5 rfl) 21 rfl) 16 rfl) 1 rfl) 900 rfl)
   rw [ops_stepL hc28] at hHs
   exact ⟨_, by omega, ⟨k + 1, v40, (fun kb => okv kb ∨ (fun kb => (fun kb => (Value.slice Ar37 (opI (gopd r.ops (k : Int))).length cr37).ownBlock = some kb) kb ∨ kb = b39) kb), rfl, by omega, (((F.bare.add F 6 rfl).add F 5 rfl).add F 1 rfl), hHs⟩⟩
  have hk28_4 := hc28; try simp only [bL] at hc28
  refine wp_exit ?_
  refine hK7 _ _ (sr fun _ hK12 => ?_)
  obtain rfl : k = r.ops.length := by omega
  rw [List.take_length] at H
  obtain ⟨Av, cv, rfl⟩ := (H.row 5 rfl).form
  rw [show ([((1, r.client) : Fld), ((2, bI r.num) : Fld)] ++ r.ops.map (fun o => ((3, opI o) : Fld))) = reqF r from rfl] at H
  refine la F rfl (x_move (F.t 5 rfl)) fun a F => ?_
  refine lp rfl ?_
  refine w_call F (x_enter Tryz.func34 (by kernel_rfl) rfl (by simp only [bM, F.t 42 rfl] <;> rfl)) (refEnc_at (Row.rd (ok' := fun k_ => okv k_ ∨ (.slice Av (reqF r).length cv : Value).ownBlock = some k_) (H.row 5 rfl) (fun _ hk_ _ => .inl hk_) (fun _ hk_ => .inr hk_)) (req_encR hb hr)) rfl rfl ?_
  rintro _ w ⟨vr78, er78, rfl, hm_, hr_⟩; refine ⟨_, rfl, ?_⟩; clear F; intro a F; have H := Hp.rowOut H 78 hm_ hr_; obtain ⟨Ar78, cr78, rfl⟩ := (H.row 78 rfl).form
  refine la F rfl (x_move (F.t 43 rfl)) fun a F => la F rfl (x_extract (F.t 41 rfl) rfl) fun a F => la F rfl (x_extract (F.t 41 rfl) rfl) fun a F => la F rfl (x_assign (F.t 44 rfl)) fun a F => la F rfl (x_assign (F.t 45 rfl)) fun a F => wn (hK12 _ _ (sr fun _ hK13 => la F rfl (x_move (F.t 7 rfl)) fun a F => ?_))
  refine lp rfl ?_
  refine w_call F (x_enter Tryz.func35 (by kernel_rfl) rfl (by simp only [bM, F.t 46 rfl] <;> rfl)) (Crc.refSumI_calls _ (Row.rd (ok' := fun k_ => (fun _ => False) k_ ∨ (.slice Ar78 (encI (reqF r)).length cr78 : Value).ownBlock = some k_) (H.row 78 rfl) (fun _ hk_ _ => .inl hk_) (fun _ hk_ => .inr hk_))) rfl rfl ?_
  rintro _ w ⟨rfl, hm_⟩; refine ⟨_, rfl, ?_⟩; clear F; intro a F; have H := H.same hm_
  refine la F rfl (x_assign (F.t 47 rfl)) fun a F => wn (hK13 _ _ (sr fun _ hK14 => la F rfl (x_move (F.t 7 rfl)) fun a F => la F rfl (x_move (F.t 9 rfl)) fun a F => la F rfl (x_conv Tryz.underlying5 ⟨_, Tryz.underlying69⟩ (F.t 49 rfl) (IntKind.wrap_u8 _)) fun a F => la F rfl (x_move (F.t 9 rfl)) fun a F => la F rfl (x_shr (F.t 51 rfl) rfl (by omega) (shrU _).1) fun a F => ?_))
  refine la F rfl (x_conv Tryz.underlying5 ⟨_, Tryz.underlying69⟩ (F.t 52 rfl) (IntKind.wrap_u8 _)) fun a F => la F rfl (x_move (F.t 9 rfl)) fun a F => la F rfl (x_shr (F.t 54 rfl) rfl (by omega) (shrU _).2.1) fun a F => la F rfl (x_conv Tryz.underlying5 ⟨_, Tryz.underlying69⟩ (F.t 55 rfl) (IntKind.wrap_u8 _)) fun a F => la F rfl (x_move (F.t 9 rfl)) fun a F => la F rfl (x_shr (F.t 57 rfl) rfl (by omega) (shrU _).2.2) fun a F => la F rfl (x_conv Tryz.underlying5 ⟨_, Tryz.underlying69⟩ (F.t 58 rfl) (IntKind.wrap_u8 _)) fun a F => ?_
  refine lp rfl ?_
  refine w_lit 60 (enc := Value.int .u8) (h1 := fun _ => rfl) (le4 (Crc.moreI 0 (encI (reqF r)))) F H rfl Tryz.underlying27 ty5 (by simp only [bM, F.t 50 rfl, F.t 53 rfl, F.t 56 rfl, F.t 59 rfl]; rfl) rfl (by decide) (by decide) (by kernel_rfl) ?_
  clear F H; intro a w b60 F H
  refine lp rfl ?_
  refine w_append 78 60 (xs := (encI (reqF r))) (ys := (le4 (Crc.moreI 0 (encI (reqF r))))) F H rfl Tryz.underlying27 ty5 rfl rfl rfl rfl (Row.rd (ok' := fun k_ => (fun _ => False) k_ ∨ (.slice (some ⟨b60, 0, none⟩) ((le4 (Crc.moreI 0 (encI (reqF r))))).length ((le4 (Crc.moreI 0 (encI (reqF r))))).length : Value).ownBlock = some k_) (H.row 60 rfl) (fun _ hk_ _ => .inl hk_) (fun _ hk_ => .inr hk_)) (by rintro k_ (hk_ | hk_); exact .inr hk_; exact .inl hk_) (F.t 48 rfl) (F.t 60 rfl) (by have := reqI_len hb hr; simp only [le4, List.length_cons, List.length_nil]; omega) (by have := reqI_len hb hr; simp only [le4, List.length_cons, List.length_nil, maxLen]; omega) (fun _ => False) (fun w' v' h => row_flat h _) (fun k_ hk_ => hk_.elim) ?_
  clear F H; intro a w v61 F H
  refine la F rfl (x_assign (F.t 61 rfl)) fun a F => la F rfl (x_assign rfl) fun a F => wn (hK14 _ _ ?_)
  refine wp_ret ?_
  try simp only [Exit.then, Exit.inBlock]
  rw [encQ_yes hr] at H
  exact fin_ret F (res2 F rfl rfl rfl) ⟨_, by rw [encQE_yes hr] <;> rfl, H.mods, Hp.out H 78 rfl⟩
 ·
  refine w_call F (x_enter Tryz.func32 (by kernel_rfl) rfl (by simp only [bM, F.t 20 rfl] <;> rfl)) (rbI_calls _ (by have := (rightQ_parts hr); exact ⟨by omega, by omega⟩)) rfl rfl ?_
  rintro _ w ⟨vr21, rfl, hm_, hr_⟩; refine ⟨_, rfl, ?_⟩; clear F; intro a F; have H := Hp.rowOut H 21 hm_ hr_; obtain ⟨Ar21, cr21, rfl⟩ := (H.row 21 rfl).form
  refine aN (SL.of H (sub_cons (sub_nil _) 1 rfl)) fun hS => ?_
  have H := H.freeze 21 rfl (fun kb => (Value.slice Ar21 (bI r.num).length cr21).ownBlock = some kb) (fun kb => ⟨fun h => .inr h, fun h => h.resolve_left id⟩)
  refine rT 8 F rfl (by kernel_rfl) pq rfl hS (fun w hS => x_buildS (cells := #[.int .i64 2, .slice Ar21 (bI r.num).length cr21]) (places := #[(0, 1), (1, 1)]) Tryz.underlying57 ty57 (by kernel_rfl) (by simp only [bM, F.t 21 rfl] <;> rfl) rfl) rfl fun a F => ?_
  refine r_do 2 rfl (by kernel_rfl) rfl rfl ?_
  refine w_s2b 16 (xs := r.client) F H rfl Tryz.underlying9 Tryz.underlying27 Tryz.underlying5 (F.t 15 rfl) hb.client (by have := (rightQ_parts hr); omega) ?_
  clear F H; intro a w b16 c16 hb16_ F H
  refine aN (SL.of H (sub_cons (sub_nil _) 1 rfl)) fun hS => ?_
  refine rT 3 F rfl (by kernel_rfl) pq rfl hS (fun w hS => x_buildS (cells := #[.int .i64 1, .slice (some ⟨b16, 0, none⟩) r.client.length c16]) (places := #[(0, 1), (1, 1)]) Tryz.underlying57 ty57 (by kernel_rfl) (by simp only [bM, F.t 16 rfl] <;> rfl) rfl) rfl fun a F => ?_
  refine r_do 9 rfl (by kernel_rfl) rfl rfl ?_
  refine w_litE 5 FE ([((1, r.client) : Fld), ((2, bI r.num) : Fld)]) #[.int .i64 1, .slice (some ⟨b16, 0, none⟩) r.client.length c16, .int .i64 2, .slice Ar21 (bI r.num).length cr21] (fun kb => (fun kb => kb = b16) kb ∨ (fun kb => (Value.slice Ar21 (bI r.num).length cr21).ownBlock = some kb) kb) F H rfl Tryz.underlying60 ty57 (by simp only [bM, F.t 17 rfl, F.t 22 rfl] <;> rfl) rfl (by decide) (by decide) (by kernel_rfl) ((Elems.single (fld_mk (f := ((1, r.client) : Fld)) (((H.rd 16 rfl)).move (fun _ _ _ => rfl) (fun k h _ => .inl h)))).append (Elems.single (fld_mk (f := ((2, bI r.num) : Fld)) (((H.rd 21 rfl)).move (fun _ _ _ => rfl) (fun k h _ => .inr h))))) (fun kb hk => hk.elim (fun h => ⟨16, _, rfl, h⟩) (fun h => ⟨21, _, rfl, h⟩)) ?_
  clear F H; intro a w b23 F H
  refine aN (SL.of H (sub_cons (sub_nil _) 1 rfl)) fun hS => ?_
  refine rT 10 F rfl (by kernel_rfl) pq rfl hS (fun w hS => x_assign (F.t 23 rfl)) rfl fun a F => ?_
  refine r_end (by kernel_rfl) ?_; clear hS
  refine hK6 _ _ ?_
  refine wp_seq_k fun _ hK15 => ?_
  refine sr fun _ hK16 => la F rfl (x_assign rfl) fun a F => wn (hK16 _ _ (wp_block ?_))
  refine wp_loop_ghost (fun n_ a w => ∃ k : Nat, ∃ v5 : Value, ∃ okv : Nat → Prop, n_ = r.ops.length - k ∧ (k ≤ r.ops.length) ∧ Fr 62 a [(1, .pointer (some ⟨b1, 0, none⟩)), (5, v5), (6, .int .i64 (k : Int))] ∧ Hp (fun _ => False) w0 w [(900, .rd_ OpdE Ar0 r.ops cr0 (fun k => k < w0.heap.size)), (1, .blk b1 (.cells #[.string (strOfNums r.client), .int .i64 r.num, .slice Ar0 r.ops.length cr0] 43 (0, 0))), (21, .rd_ (.int .u8) Ar21 (bI r.num) cr21 (fun kb => (Value.slice Ar21 (bI r.num).length cr21).ownBlock = some kb)), (16, .rd_ (.int .u8) (some ⟨b16, 0, none⟩) r.client c16 (fun kb => kb = b16)), (5, .row FE 57 v5 ([((1, r.client) : Fld), ((2, bI r.num) : Fld)] ++ (r.ops.take k).map (fun o => ((3, opI o) : Fld))) okv)]) (r.ops.length) ?_ ?_
  ·exact ⟨0, .slice (some ⟨b23, 0, none⟩) ([((1, r.client) : Fld), ((2, bI r.num) : Fld)]).length ([((1, r.client) : Fld), ((2, bI r.num) : Fld)]).length, (fun kb => (fun kb => kb = b16) kb ∨ (fun kb => (Value.slice Ar21 (bI r.num).length cr21).ownBlock = some kb) kb), rfl, by omega, (((F.bare.add F 6 rfl).add F 5 rfl).add F 1 rfl), H.sub _ (sub_cons (sub_cons (sub_cons (sub_cons (sub_cons (sub_nil _) 5 rfl) 16 rfl) 21 rfl) 1 rfl) 900 rfl)⟩
  rintro _ a w ⟨k, v5, okv, rfl, hq0_0, F, H⟩
  refine wp_seq_k fun _ hK17 => ?_
  refine sr fun _ hK18 => la F rfl (x_move (F.t 6 rfl)) fun a F => la F rfl (x_faddr Tryz.underlying43 rfl ty37 (by decide) (F.t 1 rfl) rfl) fun a F => la F rfl (x_load1 ty37 (F.t 25 rfl) (blk_cell (H.at 1 rfl) 2 rfl)) fun a F => la F rfl (x_len_slice Tryz.underlying37 (F.t 26 rfl)) fun a F => la F rfl (x_lss (F.t 24 rfl) (F.t 27 rfl)) fun a F => wn (hK18 _ _ ?_)
  refine wp_cond_split (F.t 28 rfl) (fun hc28 => ?_) (fun hc28 => ?_)
  ·have hk28_5 := hc28; try simp only [bL] at hc28
   refine wp_skip (hK17 _ _ ?_)
   refine wp_seq_k fun _ hK19 => ?_
   refine wp_block ?_
   refine wp_region_lit ?_
   obtain ⟨fA1, fc1, hfr1, hf1_0, hf1_1, hf1_2, hf1_3, hf1_4, hf1_5, hf1_6, hf1_7, hf1_8, hf1_9, hf1_10, hfw1⟩ := rd_opd ((H.rd 900 rfl)) (gopd_some (xs := r.ops) (i := (k : Int)) (by omega) (by omega))
   have H := H.subrd 900 rfl 1010 hfr1 (fun _ h => h)
   have H := H.subcels 900 rfl 1499 hfw1 (Rd.inok ((H.rd 900 rfl)) (by omega) _)
   have H := H.subcel 900 rfl 1500 hf1_0 (Rd.inok ((H.rd 900 rfl)) (by omega) _)
   have H := H.subcel 900 rfl 1501 hf1_1 (Rd.inok ((H.rd 900 rfl)) (by omega) _)
   have H := H.subcel 900 rfl 1502 hf1_2 (Rd.inok ((H.rd 900 rfl)) (by omega) _)
   have H := H.subcel 900 rfl 1503 hf1_3 (Rd.inok ((H.rd 900 rfl)) (by omega) _)
   have H := H.subcel 900 rfl 1504 hf1_4 (Rd.inok ((H.rd 900 rfl)) (by omega) _)
   have H := H.subcel 900 rfl 1505 hf1_5 (Rd.inok ((H.rd 900 rfl)) (by omega) _)
   have H := H.subcel 900 rfl 1506 hf1_6 (Rd.inok ((H.rd 900 rfl)) (by omega) _)
   have H := H.subcel 900 rfl 1507 hf1_7 (Rd.inok ((H.rd 900 rfl)) (by omega) _)
   have H := H.subcel 900 rfl 1508 hf1_8 (Rd.inok ((H.rd 900 rfl)) (by omega) _)
   have H := H.subcel 900 rfl 1509 hf1_9 (Rd.inok ((H.rd 900 rfl)) (by omega) _)
   have H := H.subcel 900 rfl 1510 hf1_10 (Rd.inok ((H.rd 900 rfl)) (by omega) _)
   have hmem := gopd_mem (xs := r.ops) (j := k) (by omega)
   refine la F rfl (x_move (F.t 5 rfl)) fun a F => la F rfl (x_faddr Tryz.underlying43 rfl ty37 (by decide) (F.t 1 rfl) rfl) fun a F => la F rfl (x_load1 ty37 (F.t 32 rfl) (blk_cell (H.at 1 rfl) 2 rfl)) fun a F => la F rfl (x_move (F.t 6 rfl)) fun a F => la F rfl (x_iaddr_A Tryz.underlying37 ty93 ((H.rd 900 rfl)) (F.t 33 rfl) (F.t 34 rfl) (by omega) (by omega) _) fun a F => la F rfl (x_loadn ty93 (F.t 35 rfl) rfl (H.holds 1499 _ rfl)) fun a F => ?_
   refine lp rfl ?_
   refine w_call F (x_enter Tryz.func55 (by kernel_rfl) rfl (by simp only [bM, F.t 36 rfl] <;> rfl)) (rop_calls (o := (gopd r.ops (k : Int))) _ ((H.rd 1010 rfl)) (hb.ops _ hmem) (rightQ_op hb hr hmem)) rfl rfl ?_
   rintro _ w ⟨vr37, rfl, hm_, hr_⟩; refine ⟨_, rfl, ?_⟩; clear F; intro a F; have H := Hp.rowOut H 37 hm_ hr_; obtain ⟨Ar37, cr37, rfl⟩ := (H.row 37 rfl).form
   have H := H.freeze 37 rfl (fun kb => (Value.slice Ar37 (opI (gopd r.ops (k : Int))).length cr37).ownBlock = some kb) (fun kb => ⟨fun h => .inr h, fun h => h.resolve_left id⟩)
   refine la F rfl (x_buildS (cells := #[.int .i64 3, .slice Ar37 (opI (gopd r.ops (k : Int))).length cr37]) (places := #[(0, 1), (1, 1)]) Tryz.underlying57 ty57 (by kernel_rfl) (by simp only [bM, F.t 37 rfl] <;> rfl) rfl) fun a F => ?_
   refine lp rfl ?_
   refine w_lit1 39 FE ((3, (opI (gopd r.ops (k : Int)))) : Fld) #[.int .i64 3, .slice Ar37 (opI (gopd r.ops (k : Int))).length cr37] (fun kb => (Value.slice Ar37 (opI (gopd r.ops (k : Int))).length cr37).ownBlock = some kb) F H rfl Tryz.underlying60 ty57 (by simp only [bM, F.t 38 rfl] <;> rfl) (by decide) (by kernel_rfl) (fld_mk (f := ((3, (opI (gopd r.ops (k : Int)))) : Fld)) ((H.rd 37 rfl))) (fun kb hk => ⟨37, _, rfl, hk⟩) ?_
   clear F H; intro a w b39 F hb39_ H
   refine lp rfl ?_
   refine w_append 5 39 (xs := ([((1, r.client) : Fld), ((2, bI r.num) : Fld)] ++ (r.ops.take k).map (fun o => ((3, opI o) : Fld)))) (ys := ([((3, (opI (gopd r.ops (k : Int)))) : Fld)])) F H rfl Tryz.underlying60 ty57 rfl rfl rfl rfl ((H.rd 39 rfl)) oI (F.t 31 rfl) (F.t 39 rfl) (by have := (rightQ_parts hr); simp only [List.length_append, List.length_nil, List.length_cons, List.length_map, List.length_take] at *; omega) (by have := (rightQ_parts hr); simp only [List.length_append, List.length_nil, List.length_cons, List.length_map, List.length_take, maxLen] at *; omega) (fun kb => okv kb ∨ (fun kb => (fun kb => (Value.slice Ar37 (opI (gopd r.ops (k : Int))).length cr37).ownBlock = some kb) kb ∨ kb = b39) kb) (fun w' v' h => h) (by rintro k_ (hk_ | hk_); exact .inl hk_; exact .inr hk_) ?_
   clear F H; intro a w v40 F H
   refine la F rfl (x_assign (F.t 40 rfl)) fun a F => wn (hK19 _ _ ?_)
   refine wp_region_lit ?_
   refine la F rfl (x_move (F.t 6 rfl)) fun a F => la F rfl (x_add (F.t 29 rfl) rfl (w64 (by omega) (by omega))) fun a F => la F rfl (x_assign (F.t 30 rfl)) fun a F => ?_
   refine wpList_nil ?_
   have hHs : Hp (fun _ => False) w0 w [(900, .rd_ OpdE Ar0 r.ops cr0 (fun k => k < w0.heap.size)), (1, .blk b1 (.cells #[.string (strOfNums r.client), .int .i64 r.num, .slice Ar0 r.ops.length cr0] 43 (0, 0))), (21, .rd_ (.int .u8) Ar21 (bI r.num) cr21 (fun kb => (Value.slice Ar21 (bI r.num).length cr21).ownBlock = some kb)), (16, .rd_ (.int .u8) (some ⟨b16, 0, none⟩) r.client c16 (fun kb => kb = b16)), (5, .row FE 57 v40 (([((1, r.client) : Fld), ((2, bI r.num) : Fld)] ++ (r.ops.take k).map (fun o => ((3, opI o) : Fld))) ++ [((3, opI (gopd r.ops (k : Int))) : Fld)]) (fun kb => okv kb ∨ (fun kb => (fun kb => (Value.slice Ar37 (opI (gopd r.ops (k : Int))).length cr37).ownBlock = some kb) kb ∨ kb = b39) kb))] := H.sub _ (sub_cons (sub_cons (sub_cons (sub_cons (sub_cons (sub_nil _) 5 rfl) 16 rfl) 21 rfl) 1 rfl) 900 rfl)
   rw [ops_stepL hc28] at hHs
   exact ⟨_, by omega, ⟨k + 1, v40, (fun kb => okv kb ∨ (fun kb => (fun kb => (Value.slice Ar37 (opI (gopd r.ops (k : Int))).length cr37).ownBlock = some kb) kb ∨ kb = b39) kb), rfl, by omega, (((F.bare.add F 6 rfl).add F 5 rfl).add F 1 rfl), hHs⟩⟩
  have hk28_6 := hc28; try simp only [bL] at hc28
  refine wp_exit ?_
  refine hK15 _ _ (sr fun _ hK20 => ?_)
  obtain rfl : k = r.ops.length := by omega
  rw [List.take_length] at H
  obtain ⟨Av, cv, rfl⟩ := (H.row 5 rfl).form
  rw [show ([((1, r.client) : Fld), ((2, bI r.num) : Fld)] ++ r.ops.map (fun o => ((3, opI o) : Fld))) = reqF r from rfl] at H
  refine la F rfl (x_move (F.t 5 rfl)) fun a F => ?_
  refine lp rfl ?_
  refine w_call F (x_enter Tryz.func34 (by kernel_rfl) rfl (by simp only [bM, F.t 42 rfl] <;> rfl)) (refEnc_at (Row.rd (ok' := fun k_ => okv k_ ∨ (.slice Av (reqF r).length cv : Value).ownBlock = some k_) (H.row 5 rfl) (fun _ hk_ _ => .inl hk_) (fun _ hk_ => .inr hk_)) (req_encR hb hr)) rfl rfl ?_
  rintro _ w ⟨vr78, er78, rfl, hm_, hr_⟩; refine ⟨_, rfl, ?_⟩; clear F; intro a F; have H := Hp.rowOut H 78 hm_ hr_; obtain ⟨Ar78, cr78, rfl⟩ := (H.row 78 rfl).form
  refine la F rfl (x_move (F.t 43 rfl)) fun a F => la F rfl (x_extract (F.t 41 rfl) rfl) fun a F => la F rfl (x_extract (F.t 41 rfl) rfl) fun a F => la F rfl (x_assign (F.t 44 rfl)) fun a F => la F rfl (x_assign (F.t 45 rfl)) fun a F => wn (hK20 _ _ (sr fun _ hK21 => la F rfl (x_move (F.t 7 rfl)) fun a F => ?_))
  refine lp rfl ?_
  refine w_call F (x_enter Tryz.func35 (by kernel_rfl) rfl (by simp only [bM, F.t 46 rfl] <;> rfl)) (Crc.refSumI_calls _ (Row.rd (ok' := fun k_ => (fun _ => False) k_ ∨ (.slice Ar78 (encI (reqF r)).length cr78 : Value).ownBlock = some k_) (H.row 78 rfl) (fun _ hk_ _ => .inl hk_) (fun _ hk_ => .inr hk_))) rfl rfl ?_
  rintro _ w ⟨rfl, hm_⟩; refine ⟨_, rfl, ?_⟩; clear F; intro a F; have H := H.same hm_
  refine la F rfl (x_assign (F.t 47 rfl)) fun a F => wn (hK21 _ _ (sr fun _ hK22 => la F rfl (x_move (F.t 7 rfl)) fun a F => la F rfl (x_move (F.t 9 rfl)) fun a F => la F rfl (x_conv Tryz.underlying5 ⟨_, Tryz.underlying69⟩ (F.t 49 rfl) (IntKind.wrap_u8 _)) fun a F => la F rfl (x_move (F.t 9 rfl)) fun a F => la F rfl (x_shr (F.t 51 rfl) rfl (by omega) (shrU _).1) fun a F => ?_))
  refine la F rfl (x_conv Tryz.underlying5 ⟨_, Tryz.underlying69⟩ (F.t 52 rfl) (IntKind.wrap_u8 _)) fun a F => la F rfl (x_move (F.t 9 rfl)) fun a F => la F rfl (x_shr (F.t 54 rfl) rfl (by omega) (shrU _).2.1) fun a F => la F rfl (x_conv Tryz.underlying5 ⟨_, Tryz.underlying69⟩ (F.t 55 rfl) (IntKind.wrap_u8 _)) fun a F => la F rfl (x_move (F.t 9 rfl)) fun a F => la F rfl (x_shr (F.t 57 rfl) rfl (by omega) (shrU _).2.2) fun a F => la F rfl (x_conv Tryz.underlying5 ⟨_, Tryz.underlying69⟩ (F.t 58 rfl) (IntKind.wrap_u8 _)) fun a F => ?_
  refine lp rfl ?_
  refine w_lit 60 (enc := Value.int .u8) (h1 := fun _ => rfl) (le4 (Crc.moreI 0 (encI (reqF r)))) F H rfl Tryz.underlying27 ty5 (by simp only [bM, F.t 50 rfl, F.t 53 rfl, F.t 56 rfl, F.t 59 rfl]; rfl) rfl (by decide) (by decide) (by kernel_rfl) ?_
  clear F H; intro a w b60 F H
  refine lp rfl ?_
  refine w_append 78 60 (xs := (encI (reqF r))) (ys := (le4 (Crc.moreI 0 (encI (reqF r))))) F H rfl Tryz.underlying27 ty5 rfl rfl rfl rfl (Row.rd (ok' := fun k_ => (fun _ => False) k_ ∨ (.slice (some ⟨b60, 0, none⟩) ((le4 (Crc.moreI 0 (encI (reqF r))))).length ((le4 (Crc.moreI 0 (encI (reqF r))))).length : Value).ownBlock = some k_) (H.row 60 rfl) (fun _ hk_ _ => .inl hk_) (fun _ hk_ => .inr hk_)) (by rintro k_ (hk_ | hk_); exact .inr hk_; exact .inl hk_) (F.t 48 rfl) (F.t 60 rfl) (by have := reqI_len hb hr; simp only [le4, List.length_cons, List.length_nil]; omega) (by have := reqI_len hb hr; simp only [le4, List.length_cons, List.length_nil, maxLen]; omega) (fun _ => False) (fun w' v' h => row_flat h _) (fun k_ hk_ => hk_.elim) ?_
  clear F H; intro a w v61 F H
  refine la F rfl (x_assign (F.t 61 rfl)) fun a F => la F rfl (x_assign rfl) fun a F => wn (hK22 _ _ ?_)
  refine wp_ret ?_
  try simp only [Exit.then, Exit.inBlock]
  rw [encQ_yes hr] at H
  exact fin_ret F (res2 F rfl rfl rfl) ⟨_, by rw [encQE_yes hr] <;> rfl, H.mods, Hp.out H 78 rfl⟩
end Go.Proofs.YtiiklnghnifmjaaGreatDoor.Act
