/- A request's bytes decoded, walked. -/
import Derived.Test.YtiiklnghnifmjaaGreatDoorDecAZc
import Derived.Test.YtiiklnghnifmjaaGreatDoorSesAZc
import Derived.Test.YtiiklnghnifmjaaGreatDoorSdcDZc
set_option linter.unusedVariables false
set_option maxRecDepth 100000
set_option maxHeartbeats 1000000
set_option linter.unusedSimpArgs false
namespace Go.Proofs.YtiiklnghnifmjaaGreatDoor.Act
open Go.RowKit Go.Proofs.YtiiklnghnifmjaaGreatDoor.Sx Go.Proofs.YtiiklnghnifmjaaGreatDoor.Cod Go.Proofs.YtiiklnghnifmjaaGreatDoor.Num
theorem read_calls (w0 : World) (hL : LibAt true w0) {ok : Nat → Prop} {A : Option Addr} {bs : List Int} {c : Nat} (hrb : Rd (.int .u8) w0 ok A bs c) (hby : Byte bs) : Calls Tryz.prog 56 #[.slice A bs.length c] w0 fun e w' => ∃ (o : OpD) (Ad : Option Addr) (cd : Nat) (b : Bool), e = .returned (.tuple #[.agg #[.int .i64 o.kind, .string (strOfNums o.key), .int .i64 o.step.1, .string (strOfNums o.step.2.1), .string (strOfNums o.step.2.2.1), .int .i64 o.step.2.2.2, .string (strOfNums o.timer.name), .int .i64 o.timer.ver, .int .u64 o.timer.tick, .int .u64 o.timer.every, .slice Ad o.timer.steps.length cd], .bool b]) ∧ Mods (fun _ => False) w0 w' ∧ RowOut StE 91 w0 w' (.slice Ad o.timer.steps.length cd) o.timer.steps ∧ ReadO bs o b := by
 refine cow Tryz.func56 rfl Tryz.ntmps56 (Nat.le_of_ble_eq_true rfl) fun a F => ?_
 have H := Hp.nil (fun _ => False) w0
 have H := H.arg 901 hrb.all (fun _ h => ⟨h, fun h => h⟩)
 have hleb := hrb.le; unfold maxLen at hleb
 have H := H.libN 990 hL
 refine sr fun _ hK1 => ?_
 refine lp rfl ?_
 refine w_alloc 2 F H rfl ty93 ?_
 clear F H; intro a w b2 F H
 refine la F rfl (x_assign rfl) fun a F => wn (hK1 _ _ (sr fun _ hK2 => la F rfl (x_move (F.t 0 rfl)) fun a F => ?_))
 refine lp rfl ?_
 refine w_call F (x_enter Tryz.func36 (by kernel_rfl) rfl (by simp only [bM, F.t 13 rfl] <;> rfl)) (dec_calls _ ((H.rd 901 rfl)) hby) rfl rfl ?_
 rintro _ w ⟨vr14, rfl, hm_, okr14, hr_, hf_, ho14_⟩; refine ⟨_, rfl, ?_⟩; clear F; intro a F; have H := H.newRow 14 hm_ hr_ hf_ ho14_; obtain ⟨Ar14, cr14, rfl⟩ := (H.row 14 rfl).form
 refine la F rfl (x_move (F.t 14 rfl)) fun a F => la F rfl (x_extract (F.t 12 rfl) rfl) fun a F => la F rfl (x_extract (F.t 12 rfl) rfl) fun a F => la F rfl (x_assign (F.t 15 rfl)) fun a F => la F rfl (x_assign (F.t 16 rfl)) fun a F => ?_
 obtain ⟨dl, hdl⟩ : ∃ dl, dl = (decR bs).getD [] := ⟨_, rfl⟩
 rw [← hdl] at F H
 have hbf : ∀ f ∈ dl, Byte f.2 := by rw [hdl]; exact dl_byte hby
 have H := H.freeze 14 rfl (fun kb => okr14 kb ∨ (Value.slice Ar14 dl.length cr14).ownBlock = some kb) (fun kb => Iff.rfl)
 refine wn (hK2 _ _ ?_)
 refine wp_seq_k fun _ hK3 => ?_
 refine sr fun _ hK4 => la F rfl (x_move (F.t 5 rfl)) fun a F => la F rfl (x_neq (F.t 17 rfl) rfl) fun a F => la F rfl (x_move (F.t 18 rfl)) fun a F => ?_
 refine split_bool F 19 rfl (fun hb19 => ?_) (fun hb19 => ?_)
 ·have hc19 := hb19; try simp only [bL] at hc19
  have hz : NoO bs := noO_none (by cases hd : decR bs with | none => rfl | some l => rw [hd] at hc19; exact absurd rfl hc19)
  refine los F hb19 rfl fun a F => los F hb19 rfl fun a F => los F hb19 rfl fun a F => la F rfl (x_pickT (F.t 19 rfl) hb19 rfl) fun a F => la F rfl (x_move (F.t 23 rfl)) fun a F => lo F rfl fun a F => lo F rfl fun a F => lo F rfl fun a F => ?_
  refine lo F rfl fun a F => lo F rfl fun a F => lo F rfl fun a F => la F rfl (x_pickT (F.t 24 rfl) rfl rfl) fun a F => wn (hK4 _ _ ?_)
  refine wp_cond_true (F.t 31 rfl) ?_
  refine sr fun _ hK5 => la F rfl (x_buildS (cells := #[.int .i64 0, .string (strOfNums []), .int .i64 0, .string (strOfNums []), .string (strOfNums []), .int .i64 0, .string (strOfNums []), .int .i64 0, .int .u64 0, .int .u64 0, .slice none 0 0]) (places := #[(0, 1), (1, 1), (2, 4), (6, 5)]) Tryz.underlying93 ty93 (by kernel_rfl) Array.map_empty rfl) fun a F => ?_
  refine lp rfl ?_
  refine w_storeA 2 H ty93 rfl (F.t 2 rfl) (F.t 32 rfl) rfl (by simp [Value.cells, Value.oneCell']) rfl ?_
  clear H; intro w H
  refine la F rfl (x_assign rfl) fun a F => wn (hK5 _ _ ?_)
  refine wp_ret ?_
  try simp only [Exit.then, Exit.inBlock]
  exact fin_ret F (resct F rfl rfl rfl (H.at 2 rfl) ty93 rfl) ⟨zO, none, 0, false, rfl, H.mods, RowOut.nil _ _ _ _, ReadO.no hz⟩
 have hc19 := hb19; try simp only [bL] at hc19
 have hdec : decR bs = some dl := by rw [hdl]; cases hd : decR bs with | some l => rfl | none => rw [hd] at hc19; exact absurd hc19 (by decide)
 refine lgs F hb19 rfl (x_move (F.t 4 rfl)) fun a F => lgs F hb19 rfl (x_len_slice Tryz.underlying60 (F.t 20 rfl)) fun a F => lgs F hb19 rfl (x_neq (F.t 21 rfl) rfl) fun a F => la F rfl (x_pickF (F.t 19 rfl) hb19 (F.t 22 rfl)) fun a F => la F rfl (x_move (F.t 23 rfl)) fun a F => ?_
 refine split_bool F 24 rfl (fun hb24 => ?_) (fun hb24 => ?_)
 ·have hc24 := hb24; try simp only [bL] at hc24
  have hz : NoO bs := noO_len hdec hc24
  refine los F hb24 rfl fun a F => los F hb24 rfl fun a F => los F hb24 rfl fun a F => los F hb24 rfl fun a F => los F hb24 rfl fun a F => los F hb24 rfl fun a F => la F rfl (x_pickT (F.t 24 rfl) hb24 rfl) fun a F => wn (hK4 _ _ ?_)
  refine wp_cond_true (F.t 31 rfl) ?_
  refine sr fun _ hK6 => la F rfl (x_buildS (cells := #[.int .i64 0, .string (strOfNums []), .int .i64 0, .string (strOfNums []), .string (strOfNums []), .int .i64 0, .string (strOfNums []), .int .i64 0, .int .u64 0, .int .u64 0, .slice none 0 0]) (places := #[(0, 1), (1, 1), (2, 4), (6, 5)]) Tryz.underlying93 ty93 (by kernel_rfl) Array.map_empty rfl) fun a F => ?_
  refine lp rfl ?_
  refine w_storeA 2 H ty93 rfl (F.t 2 rfl) (F.t 32 rfl) rfl (by simp [Value.cells, Value.oneCell']) rfl ?_
  clear H; intro w H
  refine la F rfl (x_assign rfl) fun a F => wn (hK6 _ _ ?_)
  refine wp_ret ?_
  try simp only [Exit.then, Exit.inBlock]
  exact fin_ret F (resct F rfl rfl rfl (H.at 2 rfl) ty93 rfl) ⟨zO, none, 0, false, rfl, H.mods, RowOut.nil _ _ _ _, ReadO.no hz⟩
 have hc24 := hb24; try simp only [bL] at hc24
 have hl2 : (dl.length : Int) = 2 := hc24
 obtain ⟨fA1, fc1, hfr1, hf1_0, hf1_1, hfw1⟩ := Rd.fld ((H.rd 14 rfl)) (gf_some (xs := dl) (i := 0) (by omega) (by omega))
 have H := H.subrd 14 rfl 1001 hfr1 (fun _ h => h)
 have H := H.subcels 14 rfl 1499 hfw1 (Rd.inok ((H.rd 14 rfl)) (by omega) _)
 have H := H.subcel 14 rfl 1500 hf1_0 (Rd.inok ((H.rd 14 rfl)) (by omega) _)
 have H := H.subcel 14 rfl 1501 hf1_1 (Rd.inok ((H.rd 14 rfl)) (by omega) _)
 refine lgs F hb24 rfl (x_move (F.t 4 rfl)) fun a F => lgs F hb24 rfl (x_iaddr_A Tryz.underlying60 ty57 ((H.rd 14 rfl)) (F.t 25 rfl) rfl (by omega) (by omega) _) fun a F => lgs F hb24 rfl (x_faddrA ((H.rd 14 rfl)) (by omega) _ Tryz.underlying57 rfl ty27 (by decide) (F.t 26 rfl) rfl) fun a F => lgs F hb24 rfl (x_load1 ty27 (F.t 27 rfl) (H.holds 1501 _ rfl)) fun a F => lgs F hb24 rfl (x_len_slice Tryz.underlying27 (F.t 28 rfl)) fun a F => lgs F hb24 rfl (x_neq (F.t 29 rfl) rfl) fun a F => la F rfl (x_pickF (F.t 24 rfl) hb24 (F.t 30 rfl)) fun a F => wn (hK4 _ _ ?_)
 refine wp_cond_split (F.t 31 rfl) (fun hc31 => ?_) (fun hc31 => ?_)
 ·have hk31_1 := hc31; try simp only [bL] at hc31
  have hz : NoO bs := noO_one hdec hc31
  refine sr fun _ hK7 => la F rfl (x_buildS (cells := #[.int .i64 0, .string (strOfNums []), .int .i64 0, .string (strOfNums []), .string (strOfNums []), .int .i64 0, .string (strOfNums []), .int .i64 0, .int .u64 0, .int .u64 0, .slice none 0 0]) (places := #[(0, 1), (1, 1), (2, 4), (6, 5)]) Tryz.underlying93 ty93 (by kernel_rfl) Array.map_empty rfl) fun a F => ?_
  refine lp rfl ?_
  refine w_storeA 2 H ty93 rfl (F.t 2 rfl) (F.t 32 rfl) rfl (by simp [Value.cells, Value.oneCell']) rfl ?_
  clear H; intro w H
  refine la F rfl (x_assign rfl) fun a F => wn (hK7 _ _ ?_)
  refine wp_ret ?_
  try simp only [Exit.then, Exit.inBlock]
  exact fin_ret F (resct F rfl rfl rfl (H.at 2 rfl) ty93 rfl) ⟨zO, none, 0, false, rfl, H.mods, RowOut.nil _ _ _ _, ReadO.no hz⟩
 have hk31_2 := hc31; try simp only [bL] at hc31
 have hl1 : ((gf dl 0).2.length : Int) = 1 := hc31
 refine wp_skip (hK3 _ _ (sr fun _ hK8 => la F rfl (x_move (F.t 4 rfl)) fun a F => ?_))
 have hm := gf_in (xs := dl) (i := 0) (by omega) (by omega)
 have hm1 := gf_in (xs := dl) (i := 1) (by omega) (by omega)
 refine la F rfl (x_iaddr_A Tryz.underlying60 ty57 ((H.rd 14 rfl)) (F.t 33 rfl) rfl (by omega) (by omega) _) fun a F => la F rfl (x_faddrA ((H.rd 14 rfl)) (by omega) _ Tryz.underlying57 rfl ty27 (by decide) (F.t 34 rfl) rfl) fun a F => la F rfl (x_load1 ty27 (F.t 35 rfl) (H.holds 1501 _ rfl)) fun a F => la F rfl (x_iaddr_A Tryz.underlying27 ty5 ((H.rd 1001 rfl)) (F.t 36 rfl) rfl (by omega) (by omega) _) fun a F => la F rfl (x_load1 ty5 (F.t 37 rfl) (((H.rd 1001 rfl)).cellA (gi_some (i := 0) (by omega) (by omega)))) fun a F => la F rfl (x_conv Tryz.underlying88 ⟨_, Tryz.underlying5⟩ (F.t 38 rfl) (w64 (by have := ((hbf _ hm : Byte _).gi 0); omega) (by have := ((hbf _ hm : Byte _).gi 0); omega))) fun a F => la F rfl (x_buildS (cells := #[.int .i64 (gi (gf dl 0).2 0), .string (strOfNums []), .int .i64 0, .string (strOfNums []), .string (strOfNums []), .int .i64 0, .string (strOfNums []), .int .i64 0, .int .u64 0, .int .u64 0, .slice none 0 0]) (places := #[(0, 1), (1, 1), (2, 4), (6, 5)]) Tryz.underlying93 ty93 (by kernel_rfl) (by simp only [bM, F.t 39 rfl] <;> rfl) rfl) fun a F => ?_
 refine lp rfl ?_
 refine w_alloc 6 F H rfl ty93 ?_
 clear F H; intro a w b6 F H
 refine lp rfl ?_
 refine w_storeA 6 H ty93 rfl (F.t 6 rfl) (F.t 40 rfl) rfl (by simp [Value.cells, Value.oneCell']) rfl ?_
 clear H; intro w H
 refine wn (hK8 _ _ (sr fun _ hK9 => la F rfl (x_move (F.t 4 rfl)) fun a F => ?_))
 obtain ⟨fA2, fc2, hfr2, hf2_0, hf2_1, hfw2⟩ := Rd.fld ((H.rd 14 rfl)) (gf_some (xs := dl) (i := 1) (by omega) (by omega))
 have H := H.subrd 14 rfl 2001 hfr2 (fun _ h => h)
 have H := H.subcels 14 rfl 2499 hfw2 (Rd.inok ((H.rd 14 rfl)) (by omega) _)
 have H := H.subcel 14 rfl 2500 hf2_0 (Rd.inok ((H.rd 14 rfl)) (by omega) _)
 have H := H.subcel 14 rfl 2501 hf2_1 (Rd.inok ((H.rd 14 rfl)) (by omega) _)
 refine la F rfl (x_iaddr_A Tryz.underlying60 ty57 ((H.rd 14 rfl)) (F.t 41 rfl) rfl (by omega) (by omega) _) fun a F => la F rfl (x_faddrA ((H.rd 14 rfl)) (by omega) _ Tryz.underlying57 rfl ty27 (by decide) (F.t 42 rfl) rfl) fun a F => la F rfl (x_load1 ty27 (F.t 43 rfl) (H.holds 2501 _ rfl)) fun a F => la F rfl (x_assign (F.t 44 rfl)) fun a F => wn (hK9 _ _ ?_)
 refine wp_seq_k fun _ hK10 => ?_
 refine sr fun _ hK11 => la F rfl (x_faddr Tryz.underlying93 rfl ty88 (by decide) (F.t 6 rfl) rfl) fun a F => la F rfl (x_load1 ty88 (F.t 45 rfl) (blk_cell (H.at 6 rfl) 0 rfl)) fun a F => wn (hK11 _ _ (wp_block (sr fun _ hK12 => la F rfl (x_eql (F.t 46 rfl) rfl) fun a F => la F rfl (x_assign (F.t 51 rfl)) fun a F => ?_)))
 refine wn (hK12 _ _ ?_)
 refine wp_cond_split (F.t 50 rfl) (fun hc50 => ?_) (fun hc50 => ?_)
 ·have hk50_3 := hc50; try simp only [bL] at hc50
  refine sr fun _ hK13 => la F rfl (x_move (F.t 7 rfl)) fun a F => ?_
  refine lp rfl ?_
  refine w_call F (x_enter Tryz.func76 (by kernel_rfl) rfl (by simp only [bM, F.t 53 rfl] <;> rfl)) (adec_calls _ (H.holds 990 _ rfl) ((H.rd 2001 rfl)) (hbf _ hm1)) rfl rfl ?_
  rintro _ w ⟨vr54, rfl, hm_, hr_⟩; refine ⟨_, rfl, ?_⟩; clear F; intro a F; have H := Hp.rowOut H 54 hm_ hr_; obtain ⟨Ar54, cr54, rfl⟩ := (H.row 54 rfl).form
  refine la F rfl (x_move (F.t 54 rfl)) fun a F => la F rfl (x_extract (F.t 52 rfl) rfl) fun a F => la F rfl (x_extract (F.t 52 rfl) rfl) fun a F => la F rfl (x_assign (F.t 55 rfl)) fun a F => la F rfl (x_assign (F.t 56 rfl)) fun a F => wn (hK13 _ _ ?_)
  refine wp_seq_k fun _ hK14 => ?_
  refine sr fun _ hK15 => la F rfl (x_move (F.t 9 rfl)) fun a F => la F rfl (x_neq (F.t 57 rfl) rfl) fun a F => la F rfl (x_move (F.t 58 rfl)) fun a F => ?_
  refine split_bool F 59 rfl (fun hb59 => ?_) (fun hb59 => ?_)
  ·have hc59 := hb59; try simp only [bL] at hc59
   have hz : NoO bs := noO_step hdec hc50 (fun h => hc59 h.1)
   refine los F hb59 rfl fun a F => los F hb59 rfl fun a F => los F hb59 rfl fun a F => la F rfl (x_pickT (F.t 59 rfl) hb59 rfl) fun a F => wn (hK15 _ _ ?_)
   refine wp_cond_true (F.t 63 rfl) ?_
   refine sr fun _ hK16 => la F rfl (x_buildS (cells := #[.int .i64 0, .string (strOfNums []), .int .i64 0, .string (strOfNums []), .string (strOfNums []), .int .i64 0, .string (strOfNums []), .int .i64 0, .int .u64 0, .int .u64 0, .slice none 0 0]) (places := #[(0, 1), (1, 1), (2, 4), (6, 5)]) Tryz.underlying93 ty93 (by kernel_rfl) Array.map_empty rfl) fun a F => ?_
   refine lp rfl ?_
   refine w_storeA 2 H ty93 rfl (F.t 2 rfl) (F.t 64 rfl) rfl (by simp [Value.cells, Value.oneCell']) rfl ?_
   clear H; intro w H
   refine la F rfl (x_assign rfl) fun a F => wn (hK16 _ _ ?_)
   refine wp_ret ?_
   try simp only [Exit.then, Exit.inBlock]
   exact fin_ret F (resct F rfl rfl rfl (H.at 2 rfl) ty93 rfl) ⟨zO, none, 0, false, rfl, H.mods, RowOut.nil _ _ _ _, ReadO.no hz⟩
  have hc59 := hb59; try simp only [bL] at hc59
  refine lgs F hb59 rfl (x_move (F.t 8 rfl)) fun a F => lgs F hb59 rfl (x_len_slice Tryz.underlying62 (F.t 60 rfl)) fun a F => lgs F hb59 rfl (x_neq (F.t 61 rfl) rfl) fun a F => la F rfl (x_pickF (F.t 59 rfl) hb59 (F.t 62 rfl)) fun a F => wn (hK15 _ _ ?_)
  refine wp_cond_split (F.t 63 rfl) (fun hc63 => ?_) (fun hc63 => ?_)
  ·have hk63_4 := hc63; try simp only [bL] at hc63
   have hz : NoO bs := noO_step hdec hc50 (fun h => hc63 h.2)
   refine sr fun _ hK17 => la F rfl (x_buildS (cells := #[.int .i64 0, .string (strOfNums []), .int .i64 0, .string (strOfNums []), .string (strOfNums []), .int .i64 0, .string (strOfNums []), .int .i64 0, .int .u64 0, .int .u64 0, .slice none 0 0]) (places := #[(0, 1), (1, 1), (2, 4), (6, 5)]) Tryz.underlying93 ty93 (by kernel_rfl) Array.map_empty rfl) fun a F => ?_
   refine lp rfl ?_
   refine w_storeA 2 H ty93 rfl (F.t 2 rfl) (F.t 64 rfl) rfl (by simp [Value.cells, Value.oneCell']) rfl ?_
   clear H; intro w H
   refine la F rfl (x_assign rfl) fun a F => wn (hK17 _ _ ?_)
   refine wp_ret ?_
   try simp only [Exit.then, Exit.inBlock]
   exact fin_ret F (resct F rfl rfl rfl (H.at 2 rfl) ty93 rfl) ⟨zO, none, 0, false, rfl, H.mods, RowOut.nil _ _ _ _, ReadO.no hz⟩
  have hk63_5 := hc63; try simp only [bL] at hc63
  have hro := readO_step hdec hbf hm hm1 hc50 hc63
  refine wp_skip (hK14 _ _ ?_)
  refine wp_region_lit ?_
  refine la F rfl (x_move (F.t 8 rfl)) fun a F => ?_
  obtain ⟨hf3_0, hf3_1, hf3_2, hf3_3, hfw3⟩ := rd_st (Row.rd (ok' := fun k_ => (fun _ => False) k_ ∨ (.slice Ar54 ((adecR (gf dl 1).2).getD []).length cr54 : Value).ownBlock = some k_) (H.row 54 rfl) (fun _ hk_ _ => .inl hk_) (fun _ hk_ => .inr hk_)) (gst_some (xs := ((adecR (gf dl 1).2).getD [])) (i := 0) (by omega) (by omega))
  refine la F rfl (x_iaddr_A Tryz.underlying62 ty91 (Row.rd (ok' := fun k_ => (fun _ => False) k_ ∨ (.slice Ar54 ((adecR (gf dl 1).2).getD []).length cr54 : Value).ownBlock = some k_) (H.row 54 rfl) (fun _ hk_ _ => .inl hk_) (fun _ hk_ => .inr hk_)) (F.t 65 rfl) rfl (by omega) (by omega) _) fun a F => la F rfl (x_loadn ty91 (F.t 66 rfl) rfl hfw3) fun a F => la F rfl (x_faddr Tryz.underlying93 rfl ty91 (by decide) (F.t 6 rfl) rfl) fun a F => ?_
  refine lp rfl ?_
  refine w_store 6 H ty91 rfl (F.t 68 rfl) (F.t 67 rfl) rfl (by simp [Value.cells, Value.oneCell']) (by first | decide | exact Nat.le_of_ble_eq_true rfl) ?_
  clear H; intro w H
  refine wn (hK10 _ _ (sr fun _ hK18 => la F rfl (x_loadn ty93 (F.t 6 rfl) rfl (blk_whole (H.at 6 rfl))) fun a F => ?_))
  refine lp rfl ?_
  refine w_storeA 2 H ty93 rfl (F.t 2 rfl) (F.t 84 rfl) rfl (show ∀ u ∈ (Value.agg #[.int .i64 (gi (gf dl 0).2 0), .string (strOfNums []), .int .i64 (gst ((adecR (gf dl 1).2).getD []) 0).1, .string (strOfNums (gst ((adecR (gf dl 1).2).getD []) 0).2.1), .string (strOfNums (gst ((adecR (gf dl 1).2).getD []) 0).2.2.1), .int .i64 (gst ((adecR (gf dl 1).2).getD []) 0).2.2.2, .string (strOfNums []), .int .i64 0, .int .u64 0, .int .u64 0, .slice none 0 0]).cells.toList, u.oneCell' = true from (by simp [Value.cells, Value.oneCell'])) rfl ?_
  clear H; intro w H
  refine la F rfl (x_assign rfl) fun a F => wn (hK18 _ _ ?_)
  refine wp_ret ?_
  try simp only [Exit.then, Exit.inBlock]
  exact fin_ret F (resct F rfl rfl rfl (H.at 2 rfl) ty93 rfl) ⟨_, none, 0, true, rfl, H.mods, RowOut.nil _ _ _ _, hro⟩
 have hk50_6 := hc50; try simp only [bL] at hc50
 refine sr fun _ hK19 => la F rfl (x_eql (F.t 46 rfl) rfl) fun a F => la F rfl (x_assign (F.t 70 rfl)) fun a F => wn (hK19 _ _ ?_)
 refine wp_cond_split (F.t 69 rfl) (fun hc69 => ?_) (fun hc69 => ?_)
 ·have hk69_7 := hc69; try simp only [bL] at hc69
  refine sr fun _ hK20 => la F rfl (x_move (F.t 7 rfl)) fun a F => ?_
  refine lp rfl ?_
  refine w_call F (x_enter Tryz.func39 (by kernel_rfl) rfl (by simp only [bM, F.t 72 rfl] <;> rfl)) (decC_calls _ (H.holds 990 _ rfl) ((H.rd 2001 rfl)) (hbf _ hm1)) rfl rfl ?_
  rintro _ w ⟨x, Ad, cd, g, rfl, hm_, hr_, hD_⟩; refine ⟨_, rfl, ?_⟩; clear F; intro a F; have H := Hp.rowOut H 70 hm_ hr_
  refine la F rfl (x_move (F.t 73 rfl)) fun a F => la F rfl (x_extract (F.t 71 rfl) rfl) fun a F => la F rfl (x_extract (F.t 71 rfl) rfl) fun a F => ?_
  refine lp rfl ?_
  refine w_alloc 10 F H rfl ty66 ?_
  clear F H; intro a w b10 F H
  refine lp rfl ?_
  refine w_storeA 10 H ty66 rfl (F.t 10 rfl) (F.t 74 rfl) rfl (by simp [Value.cells, Value.oneCell']) rfl ?_
  clear H; intro w H
  refine la F rfl (x_assign (F.t 75 rfl)) fun a F => wn (hK20 _ _ ?_)
  refine wp_seq_k fun _ hK21 => ?_
  refine sr fun _ hK22 => la F rfl (x_move (F.t 11 rfl)) fun a F => la F rfl (x_neq (F.t 76 rfl) rfl) fun a F => wn (hK22 _ _ ?_)
  refine wp_cond_split (F.t 77 rfl) (fun hc77 => ?_) (fun hc77 => ?_)
  ·have hk77_8 := hc77; try simp only [bL] at hc77
   have hz : NoO bs := noO_arm hdec hc69 hD_ hc77
   refine sr fun _ hK23 => la F rfl (x_buildS (cells := #[.int .i64 0, .string (strOfNums []), .int .i64 0, .string (strOfNums []), .string (strOfNums []), .int .i64 0, .string (strOfNums []), .int .i64 0, .int .u64 0, .int .u64 0, .slice none 0 0]) (places := #[(0, 1), (1, 1), (2, 4), (6, 5)]) Tryz.underlying93 ty93 (by kernel_rfl) Array.map_empty rfl) fun a F => ?_
   refine lp rfl ?_
   refine w_storeA 2 H ty93 rfl (F.t 2 rfl) (F.t 78 rfl) rfl (by simp [Value.cells, Value.oneCell']) rfl ?_
   clear H; intro w H
   refine la F rfl (x_assign rfl) fun a F => wn (hK23 _ _ ?_)
   refine wp_ret ?_
   try simp only [Exit.then, Exit.inBlock]
   exact fin_ret F (resct F rfl rfl rfl (H.at 2 rfl) ty93 rfl) ⟨zO, none, 0, false, rfl, H.mods, RowOut.nil _ _ _ _, ReadO.no hz⟩
  have hk77_9 := hc77; try simp only [bL] at hc77
  have hro := readO_arm hdec hbf hm hc69 hD_
  refine wp_skip (hK21 _ _ (sr fun _ hK24 => la F rfl (x_faddr Tryz.underlying66 rfl ty64 (by decide) (F.t 10 rfl) rfl) fun a F => la F rfl (x_loadn (cs := #[.string (strOfNums x.timer.name), .int .i64 x.timer.ver, .int .u64 x.timer.tick, .int .u64 x.timer.every, .slice Ad x.timer.steps.length cd]) ty64 (F.t 79 rfl) rfl (blk_sub (H.at 10 rfl) 3 5 rfl)) fun a F => la F rfl (x_faddr Tryz.underlying93 rfl ty64 (by decide) (F.t 6 rfl) rfl) fun a F => ?_))
  refine lp rfl ?_
  refine w_store 6 H ty64 rfl (F.t 81 rfl) (F.t 80 rfl) rfl (by simp [Value.cells, Value.oneCell']) (by first | decide | exact Nat.le_of_ble_eq_true rfl) ?_
  clear H; intro w H
  refine wn (hK24 _ _ ?_)
  refine wp_region_lit ?_
  refine la F rfl (x_faddr Tryz.underlying93 rfl ty64 (by decide) (F.t 6 rfl) rfl) fun a F => la F rfl (x_faddr Tryz.underlying64 rfl ty3 (by decide) (F.t 82 rfl) rfl) fun a F => ?_
  refine lp rfl ?_
  refine w_store 6 H ty3 rfl (F.t 83 rfl) rfl rfl (one1 rfl rfl) (by first | decide | exact Nat.le_of_ble_eq_true rfl) ?_
  clear H; intro w H
  refine wn (hK10 _ _ (sr fun _ hK25 => la F rfl (x_loadn ty93 (F.t 6 rfl) rfl (blk_whole (H.at 6 rfl))) fun a F => ?_))
  refine lp rfl ?_
  refine w_storeA 2 H ty93 rfl (F.t 2 rfl) (F.t 84 rfl) rfl (show ∀ u ∈ (Value.agg #[.int .i64 (gi (gf dl 0).2 0), .string (strOfNums []), .int .i64 0, .string (strOfNums []), .string (strOfNums []), .int .i64 0, .string (strOfNums x.timer.name), .int .i64 0, .int .u64 x.timer.tick, .int .u64 x.timer.every, .slice Ad x.timer.steps.length cd]).cells.toList, u.oneCell' = true from (by simp [Value.cells, Value.oneCell'])) rfl ?_
  clear H; intro w H
  refine la F rfl (x_assign rfl) fun a F => wn (hK25 _ _ ?_)
  refine wp_ret ?_
  try simp only [Exit.then, Exit.inBlock]
  exact fin_ret F (resct F rfl rfl rfl (H.at 2 rfl) ty93 rfl) ⟨_, Ad, cd, true, rfl, H.mods, Hp.out H 70 rfl, hro⟩
 have hk69_10 := hc69; try simp only [bL] at hc69
 have hro := readO_key hdec hbf hm hm1 hc50 hc69
 refine wp_region_lit ?_
 refine la F rfl (x_move (F.t 7 rfl)) fun a F => la F rfl (x_b2s Tryz.underlying27 Tryz.underlying5 Tryz.underlying9 ((H.rd 2001 rfl)) (F.t 47 rfl)) fun a F => la F rfl (x_faddr Tryz.underlying93 rfl ty9 (by decide) (F.t 6 rfl) rfl) fun a F => ?_
 refine lp rfl ?_
 refine w_store 6 H ty9 rfl (F.t 49 rfl) (F.t 48 rfl) rfl (one1 rfl rfl) (by first | decide | exact Nat.le_of_ble_eq_true rfl) ?_
 clear H; intro w H
 refine wn (hK10 _ _ (sr fun _ hK26 => la F rfl (x_loadn ty93 (F.t 6 rfl) rfl (blk_whole (H.at 6 rfl))) fun a F => ?_))
 refine lp rfl ?_
 refine w_storeA 2 H ty93 rfl (F.t 2 rfl) (F.t 84 rfl) rfl (show ∀ u ∈ (Value.agg #[.int .i64 (gi (gf dl 0).2 0), .string (strOfNums ((gf dl 1).2)), .int .i64 0, .string (strOfNums []), .string (strOfNums []), .int .i64 0, .string (strOfNums []), .int .i64 0, .int .u64 0, .int .u64 0, .slice none 0 0]).cells.toList, u.oneCell' = true from (by simp [Value.cells, Value.oneCell'])) rfl ?_
 clear H; intro w H
 refine la F rfl (x_assign rfl) fun a F => wn (hK26 _ _ ?_)
 refine wp_ret ?_
 try simp only [Exit.then, Exit.inBlock]
 exact fin_ret F (resct F rfl rfl rfl (H.at 2 rfl) ty93 rfl) ⟨_, none, 0, true, rfl, H.mods, RowOut.nil _ _ _ _, hro⟩
theorem decB_calls2 (w0 : World) {ok : Nat → Prop} {A : Option Addr} {bs : List Int} {c : Nat} (hr : Rd (.int .u8) w0 ok A (bodyM bs) c) (hby : Byte (bodyM bs)) : Calls Tryz.prog 36 #[.slice A (bodyM bs).length c] w0 fun e w' => ∃ v, e = .returned (.tuple #[v, .int .i64 (if (decR (bodyM bs)).isSome then 0 else 12)]) ∧ Mods (fun _ => False) w0 w' ∧ RowNew FE 57 w0 w' v ((decR (bodyM bs)).getD []) := dec_calls w0 hr hby
theorem decQ_calls (w0 : World) (hL : LibAt true w0) {ok : Nat → Prop} {A : Option Addr} {bs : List Int} {c : Nat} (hrb : Rd (.int .u8) w0 ok A bs c) (hby : Byte bs) : Calls Tryz.prog 19 #[.slice A bs.length c] w0 fun e w' => ∃ (r : SReqD) (Ao : Option Addr) (co : Nat) (oko : Nat → Prop) (g : Int), e = .returned (.tuple #[.agg #[.string (strOfNums r.client), .int .i64 r.num, .slice Ao r.ops.length co], .int .i64 g]) ∧ Mods (fun _ => False) w0 w' ∧ Rd OpdE w' oko Ao r.ops co ∧ (∀ k, oko k → w0.heap.size ≤ k ∧ k < w'.heap.size) ∧ DecQ bs r g := by
 refine cow Tryz.func19 rfl Tryz.ntmps19 (Nat.le_of_ble_eq_true rfl) fun a F => ?_
 have H := Hp.nil (fun _ => False) w0
 have H := H.arg 901 hrb.all (fun _ h => ⟨h, fun h => h⟩)
 have hleb := hrb.le; unfold maxLen at hleb
 have H := H.libN 990 hL
 refine sr fun _ hK1 => ?_
 refine lp rfl ?_
 refine w_alloc 2 F H rfl ty39 ?_
 clear F H; intro a w b2 F H
 refine la F rfl (x_assign rfl) fun a F => wn (hK1 _ _ (sr fun _ hK2 => la F rfl (x_move (F.t 0 rfl)) fun a F => la F rfl (x_move (F.t 0 rfl)) fun a F => la F rfl (x_len_slice Tryz.underlying27 (F.t 21 rfl)) fun a F => la F rfl (x_sub (F.t 22 rfl) rfl (w64 (by omega) (by omega))) fun a F => la F rfl (x_max2 (F.t 23 rfl) rfl) fun a F => ?_))
 refine la F rfl (x_slice_h Tryz.underlying27 ty5 (F.t 20 rfl) (F.t 24 rfl) (by unfold mx; split <;> omega) (by unfold mx; split <;> omega) ((H.rd 901 rfl)).1) fun a F => ?_
 refine lp rfl ?_
 refine w_call F (x_enter Tryz.func36 (by kernel_rfl) rfl (by simp only [bM, F.t 25 rfl] <;> rfl)) (decB_calls2 (bs := bs) _ ((Rd.take ((H.rd 901 rfl)) ((mx ((bs.length : Int) - 4) 0).toNat))) ((hby : Byte _).take _)) rfl rfl ?_
 rintro _ w ⟨vr19, rfl, hm_, okr19, hr_, hf_, ho19_⟩; refine ⟨_, rfl, ?_⟩; clear F; intro a F; have H := H.newRow 19 hm_ hr_ hf_ ho19_; obtain ⟨Ar19, cr19, rfl⟩ := (H.row 19 rfl).form
 refine la F rfl (x_move (F.t 26 rfl)) fun a F => la F rfl (x_extract (F.t 19 rfl) rfl) fun a F => la F rfl (x_extract (F.t 19 rfl) rfl) fun a F => la F rfl (x_assign (F.t 27 rfl)) fun a F => la F rfl (x_assign (F.t 28 rfl)) fun a F => ?_
 obtain ⟨dl, hdl⟩ : ∃ dl, dl = (decR (bodyM bs)).getD [] := ⟨_, rfl⟩
 rw [← hdl] at F H
 have hsh : short dl = true := by rw [hdl]; exact dl_short ((hby : Byte _).take _)
 have hbf : ∀ f ∈ dl, Byte f.2 := by rw [hdl]; exact dl_byte ((hby : Byte _).take _)
 have H := H.freeze 19 rfl (fun kb => okr19 kb ∨ (Value.slice Ar19 dl.length cr19).ownBlock = some kb) (fun kb => Iff.rfl)
 refine wn (hK2 _ _ (sr fun _ hK3 => la F rfl (x_move (F.t 4 rfl)) fun a F => ?_))
 refine lp rfl ?_
 refine w_call F (x_enter Tryz.func37 (by kernel_rfl) rfl (by simp only [bM, F.t 30 rfl] <;> rfl)) (dfind_calls _ 1 ((H.rd 19 rfl)) hsh) rfl rfl ?_
 rintro _ w ⟨vr31, rfl, hm_, hr_⟩; refine ⟨_, rfl, ?_⟩; clear F; intro a F; have H := Hp.rowOut H 31 hm_ hr_; obtain ⟨Ar31, cr31, rfl⟩ := (H.row 31 rfl).form
 refine la F rfl (x_move (F.t 31 rfl)) fun a F => la F rfl (x_extract (F.t 29 rfl) rfl) fun a F => la F rfl (x_extract (F.t 29 rfl) rfl) fun a F => la F rfl (x_assign (F.t 32 rfl)) fun a F => ?_
 have H := H.freeze 31 rfl (fun kb => (Value.slice Ar31 (fnd dl 1).length cr31).ownBlock = some kb) (fun kb => ⟨fun h => .inr h, fun h => h.resolve_left id⟩)
 refine la F rfl (x_assign (F.t 33 rfl)) fun a F => wn (hK3 _ _ (sr fun _ hK4 => la F rfl (x_move (F.t 4 rfl)) fun a F => ?_))
 refine lp rfl ?_
 refine w_call F (x_enter Tryz.func37 (by kernel_rfl) rfl (by simp only [bM, F.t 35 rfl] <;> rfl)) (dfind_calls _ 2 ((H.rd 19 rfl)) hsh) rfl rfl ?_
 rintro _ w ⟨vr36, rfl, hm_, hr_⟩; refine ⟨_, rfl, ?_⟩; clear F; intro a F; have H := Hp.rowOut H 36 hm_ hr_; obtain ⟨Ar36, cr36, rfl⟩ := (H.row 36 rfl).form
 refine la F rfl (x_move (F.t 36 rfl)) fun a F => la F rfl (x_extract (F.t 34 rfl) rfl) fun a F => la F rfl (x_extract (F.t 34 rfl) rfl) fun a F => la F rfl (x_assign (F.t 37 rfl)) fun a F => la F rfl (x_assign (F.t 38 rfl)) fun a F => wn (hK4 _ _ (sr fun _ hK5 => la F rfl (x_move (F.t 8 rfl)) fun a F => ?_))
 refine lp rfl ?_
 refine w_call F (x_enter Tryz.func38 (by kernel_rfl) rfl (by simp only [bM, F.t 40 rfl] <;> rfl)) (num_calls _ (Row.rd (ok' := fun k_ => (fun _ => False) k_ ∨ (.slice Ar36 (fnd dl 2).length cr36 : Value).ownBlock = some k_) (H.row 36 rfl) (fun _ hk_ _ => .inl hk_) (fun _ hk_ => .inr hk_)) (fnd_byte hbf 2)) rfl rfl ?_
 rintro _ w ⟨rfl, hm_⟩; refine ⟨_, rfl, ?_⟩; clear F; intro a F; have H := H.same hm_
 refine la F rfl (x_move (F.t 41 rfl)) fun a F => la F rfl (x_extract (F.t 39 rfl) rfl) fun a F => la F rfl (x_extract (F.t 39 rfl) rfl) fun a F => la F rfl (x_assign (F.t 42 rfl)) fun a F => la F rfl (x_assign (F.t 43 rfl)) fun a F => wn (hK5 _ _ ?_)
 refine wp_seq_k fun _ hK6 => ?_
 refine sr fun _ hK7 => la F rfl (x_move (F.t 5 rfl)) fun a F => la F rfl (x_neq (F.t 44 rfl) rfl) fun a F => la F rfl (x_move (F.t 45 rfl)) fun a F => ?_
 refine split_bool F 46 rfl (fun hb46 => ?_) (fun hb46 => ?_)
 ·have hc46 := hb46; try simp only [bL] at hc46
  have hz : NoQ bs := noQ_none (by cases hd : decR (bodyM bs) with | none => rfl | some l => rw [hd] at hc46; exact absurd rfl hc46)
  refine los F hb46 rfl fun a F => los F hb46 rfl fun a F => la F rfl (x_pickT (F.t 46 rfl) hb46 rfl) fun a F => la F rfl (x_move (F.t 49 rfl)) fun a F => lo F rfl fun a F => lo F rfl fun a F => la F rfl (x_pickT (F.t 50 rfl) rfl rfl) fun a F => wn (hK7 _ _ ?_)
  refine wp_cond_true (F.t 53 rfl) ?_
  refine sr fun _ hK8 => la F rfl (x_buildS (cells := #[.string (strOfNums []), .int .i64 0, .slice none 0 0]) (places := #[(0, 1), (1, 1), (2, 1)]) Tryz.underlying39 ty39 (by kernel_rfl) Array.map_empty rfl) fun a F => ?_
  refine lp rfl ?_
  refine w_storeA 2 H ty39 rfl (F.t 2 rfl) (F.t 54 rfl) rfl (by simp [Value.cells, Value.oneCell']) rfl ?_
  clear H; intro w H
  refine la F rfl (x_assign rfl) fun a F => wn (hK8 _ _ ?_)
  refine wp_ret ?_
  try simp only [Exit.then, Exit.inBlock]
  exact fin_ret F (resct F rfl rfl rfl (H.at 2 rfl) ty39 rfl) ⟨zR, none, 0, (fun _ => False), 221, rfl, H.mods, Rd.nil _ _ _, (fun k h => h.elim), DecQ.no hz⟩
 have hc46 := hb46; try simp only [bL] at hc46
 have hdec : decR (bodyM bs) = some dl := by rw [hdl]; cases hd : decR (bodyM bs) with | some l => rfl | none => rw [hd] at hc46; exact absurd hc46 (by decide)
 have hfew := dl_few ((hby : Byte _).take _) hdec
 refine lgs F hb46 rfl (x_move (F.t 11 rfl)) fun a F => lgs F hb46 rfl (x_not (F.t 47 rfl)) fun a F => la F rfl (x_pickF (F.t 46 rfl) hb46 (F.t 48 rfl)) fun a F => la F rfl (x_move (F.t 49 rfl)) fun a F => ?_
 refine split_bool F 50 rfl (fun hb50 => ?_) (fun hb50 => ?_)
 ·have hc50 := hb50; try simp only [bL] at hc50
  have hz : NoQ bs := noQ_head hdec (fun h => by rw [h.1] at hc50; exact absurd hc50 (by decide))
  refine los F hb50 rfl fun a F => los F hb50 rfl fun a F => la F rfl (x_pickT (F.t 50 rfl) hb50 rfl) fun a F => wn (hK7 _ _ ?_)
  refine wp_cond_true (F.t 53 rfl) ?_
  refine sr fun _ hK9 => la F rfl (x_buildS (cells := #[.string (strOfNums []), .int .i64 0, .slice none 0 0]) (places := #[(0, 1), (1, 1), (2, 1)]) Tryz.underlying39 ty39 (by kernel_rfl) Array.map_empty rfl) fun a F => ?_
  refine lp rfl ?_
  refine w_storeA 2 H ty39 rfl (F.t 2 rfl) (F.t 54 rfl) rfl (by simp [Value.cells, Value.oneCell']) rfl ?_
  clear H; intro w H
  refine la F rfl (x_assign rfl) fun a F => wn (hK9 _ _ ?_)
  refine wp_ret ?_
  try simp only [Exit.then, Exit.inBlock]
  exact fin_ret F (resct F rfl rfl rfl (H.at 2 rfl) ty39 rfl) ⟨zR, none, 0, (fun _ => False), 221, rfl, H.mods, Rd.nil _ _ _, (fun k h => h.elim), DecQ.no hz⟩
 have hc50 := hb50; try simp only [bL] at hc50
 refine lgs F hb50 rfl (x_move (F.t 10 rfl)) fun a F => lgs F hb50 rfl (x_gtr (F.t 51 rfl) rfl) fun a F => la F rfl (x_pickF (F.t 50 rfl) hb50 (F.t 52 rfl)) fun a F => wn (hK7 _ _ ?_)
 refine wp_cond_split (F.t 53 rfl) (fun hc53 => ?_) (fun hc53 => ?_)
 ·have hk53_1 := hc53; try simp only [bL] at hc53
  have hz : NoQ bs := noQ_head hdec (fun h => h.2 hc53)
  refine sr fun _ hK10 => la F rfl (x_buildS (cells := #[.string (strOfNums []), .int .i64 0, .slice none 0 0]) (places := #[(0, 1), (1, 1), (2, 1)]) Tryz.underlying39 ty39 (by kernel_rfl) Array.map_empty rfl) fun a F => ?_
  refine lp rfl ?_
  refine w_storeA 2 H ty39 rfl (F.t 2 rfl) (F.t 54 rfl) rfl (by simp [Value.cells, Value.oneCell']) rfl ?_
  clear H; intro w H
  refine la F rfl (x_assign rfl) fun a F => wn (hK10 _ _ ?_)
  refine wp_ret ?_
  try simp only [Exit.then, Exit.inBlock]
  exact fin_ret F (resct F rfl rfl rfl (H.at 2 rfl) ty39 rfl) ⟨zR, none, 0, (fun _ => False), 221, rfl, H.mods, Rd.nil _ _ _, (fun k h => h.elim), DecQ.no hz⟩
 have hk53_2 := hc53; try simp only [bL] at hc53
 refine wp_skip (hK6 _ _ (sr fun _ hK11 => la F rfl (x_move (F.t 6 rfl)) fun a F => la F rfl (x_b2s Tryz.underlying27 Tryz.underlying5 Tryz.underlying9 ((H.rd 31 rfl)) (F.t 55 rfl)) fun a F => la F rfl (x_move (F.t 10 rfl)) fun a F => la F rfl (x_conv Tryz.underlying3 ⟨_, Tryz.underlying59⟩ (F.t 57 rfl) (w64 (by have := numV_range (fnd_byte hbf 2); omega) (by have := numV_range (fnd_byte hbf 2); omega))) fun a F => la F rfl (x_buildS (cells := #[.string (strOfNums (fnd dl 1)), .int .i64 (numV (fnd dl 2)), .slice none 0 0]) (places := #[(0, 1), (1, 1), (2, 1)]) Tryz.underlying39 ty39 (by kernel_rfl) (by simp only [bM, F.t 56 rfl, F.t 58 rfl] <;> rfl) rfl) fun a F => ?_))
 refine lp rfl ?_
 refine w_alloc 12 F H rfl ty39 ?_
 clear F H; intro a w b12 F H
 refine lp rfl ?_
 refine w_storeA 12 H ty39 rfl (F.t 12 rfl) (F.t 59 rfl) rfl (by simp [Value.cells, Value.oneCell']) rfl ?_
 clear H; intro w H
 refine wn (hK11 _ _ ?_)
 refine wp_seq_k fun _ hK12 => ?_
 refine sr fun _ hK13 => ?_
 have H := H.row0 61 OpdE 93
 refine la F rfl (x_move (F.t 4 rfl)) fun a F => la F rfl (x_len_slice Tryz.underlying60 (F.t 60 rfl)) fun a F => la F rfl (x_move rfl) fun a F => wn (hK13 _ _ (wp_block ?_))
 refine wp_loop_ghost (fun n_ a w => ∃ k : Nat, ∃ Ao : Option Addr, ∃ co : Nat, ∃ os : List OpD, ∃ oko : Nat → Prop, n_ = dl.length - k ∧ (k ≤ dl.length) ∧ (QInv dl k os) ∧ (∀ o ∈ os, OpB o) ∧ (os.length ≤ k) ∧ (∀ kb, oko kb → w0.heap.size ≤ kb) ∧ Fr 100 a [(0, .slice A bs.length c), (2, .pointer (some ⟨b2, 0, none⟩)), (12, .pointer (some ⟨b12, 0, none⟩)), (60, .slice Ar19 dl.length cr19), (61, .int .i64 (dl.length : Int)), (62, .int .i64 (k : Int))] ∧ Hp (fun _ => False) w0 w [(901, .rd_ (.int .u8) A bs c (fun k => k < w0.heap.size)), (990, .lib true), (2, .blk b2 (.cells #[.string (strOfNums []), .int .i64 0, .slice none 0 0] 39 (0, 0))), (19, .rd_ FE Ar19 dl cr19 (fun kb => okr19 kb ∨ (Value.slice Ar19 dl.length cr19).ownBlock = some kb)), (31, .rd_ (.int .u8) Ar31 (fnd dl 1) cr31 (fun kb => (Value.slice Ar31 (fnd dl 1).length cr31).ownBlock = some kb)), (36, .row (.int .u8) 5 (.slice Ar36 (fnd dl 2).length cr36) (fnd dl 2) (fun _ => False)), (12, .blk b12 (.cells #[.string (strOfNums (fnd dl 1)), .int .i64 (numV (fnd dl 2)), .slice Ao os.length co] 39 (0, 0))), (61, .row OpdE 93 (.slice Ao os.length co) os oko)]) (dl.length) ?_ ?_
 ·exact ⟨0, none, 0, [], (fun _ => False), rfl, by omega, QInv.start dl, (fun o ho => by cases ho), by simp, (fun kb h => h.elim), ((((((F.bare.add F 62 rfl).add F 61 rfl).add F 60 rfl).add F 12 rfl).add F 2 rfl).add F 0 rfl), H.sub _ (sub_cons (sub_cons (sub_cons (sub_cons (sub_cons (sub_cons (sub_cons (sub_cons (sub_nil _) 61 rfl) 12 rfl) 36 rfl) 31 rfl) 19 rfl) 2 rfl) 990 rfl) 901 rfl)⟩
 rintro _ a w ⟨k, Ao, co, os, oko, rfl, hq0_0, hq0_1, hq0_2, hq0_3, hq0_4, F, H⟩
 refine sr fun _ hK14 => la F rfl (x_lss (F.t 62 rfl) (F.t 61 rfl)) fun a F => wn (hK14 _ _ ?_)
 refine wp_seq_k fun _ hK15 => ?_
 refine wp_cond_split (F.t 63 rfl) (fun hc63 => ?_) (fun hc63 => ?_)
 ·have hk63_3 := hc63; try simp only [bL] at hc63
  refine wp_skip (hK15 _ _ ?_)
  refine wp_seq_k fun _ hK16 => ?_
  refine wp_block (sr fun _ hK17 => ?_)
  obtain ⟨fA1, fc1, hfr1, hf1_0, hf1_1, hfw1⟩ := Rd.fld ((H.rd 19 rfl)) (gf_some (xs := dl) (i := (k : Int)) (by omega) (by omega))
  have H := H.subrd 19 rfl 1001 hfr1 (fun _ h => h)
  have H := H.subcels 19 rfl 1499 hfw1 (Rd.inok ((H.rd 19 rfl)) (by omega) _)
  have H := H.subcel 19 rfl 1500 hf1_0 (Rd.inok ((H.rd 19 rfl)) (by omega) _)
  have H := H.subcel 19 rfl 1501 hf1_1 (Rd.inok ((H.rd 19 rfl)) (by omega) _)
  have hmk := gf_in (xs := dl) (i := (k : Int)) (by omega) (by omega)
  refine la F rfl (x_iaddr_A Tryz.underlying60 ty57 ((H.rd 19 rfl)) (F.t 60 rfl) (F.t 62 rfl) (by omega) (by omega) _) fun a F => la F rfl (x_loadn ty57 (F.t 64 rfl) rfl (H.holds 1499 _ rfl)) fun a F => ?_
  refine lp rfl ?_
  refine w_alloc 14 F H rfl ty57 ?_
  clear F H; intro a w b14 F H
  refine lp rfl ?_
  refine w_storeA 14 H ty57 rfl (F.t 14 rfl) (F.t 65 rfl) rfl (by simp [Value.cells, Value.oneCell']) rfl ?_
  clear H; intro w H
  refine wn (hK17 _ _ ?_)
  refine wp_seq_k fun _ hK18 => ?_
  refine sr fun _ hK19 => la F rfl (x_faddr Tryz.underlying57 rfl ty3 (by decide) (F.t 14 rfl) rfl) fun a F => la F rfl (x_load1 ty3 (F.t 66 rfl) (blk_cell (H.at 14 rfl) 0 rfl)) fun a F => la F rfl (x_neq (F.t 67 rfl) rfl) fun a F => wn (hK19 _ _ ?_)
  refine wp_cond_split (F.t 68 rfl) (fun hc68 => ?_) (fun hc68 => ?_)
  ·have hk68_4 := hc68; try simp only [bL] at hc68
   refine wp_exit ?_
   refine hK16 _ _ ?_
   refine wp_region_lit ?_
   refine la F rfl (x_add (F.t 62 rfl) rfl (w64 (by omega) (by omega))) fun a F => la F rfl (x_move (F.t 84 rfl)) fun a F => ?_
   refine wpList_nil ?_
   exact ⟨_, by omega, ⟨k + 1, Ao, co, os, oko, rfl, by omega, hq0_1.skip hc63 hc68, hq0_2, by omega, hq0_4, ((((((F.bare.add F 62 rfl).add F 61 rfl).add F 60 rfl).add F 12 rfl).add F 2 rfl).add F 0 rfl), H.sub _ (sub_cons (sub_cons (sub_cons (sub_cons (sub_cons (sub_cons (sub_cons (sub_cons (sub_nil _) 61 rfl) 12 rfl) 36 rfl) 31 rfl) 19 rfl) 2 rfl) 990 rfl) 901 rfl)⟩⟩
  have hk68_5 := hc68; try simp only [bL] at hc68
  refine wp_skip (hK18 _ _ (sr fun _ hK20 => la F rfl (x_faddr Tryz.underlying57 rfl ty27 (by decide) (F.t 14 rfl) rfl) fun a F => la F rfl (x_load1 ty27 (F.t 70 rfl) (blk_cell (H.at 14 rfl) 1 rfl)) fun a F => ?_))
  refine lp rfl ?_
  refine w_call F (x_enter Tryz.func56 (by kernel_rfl) rfl (by simp only [bM, F.t 71 rfl] <;> rfl)) (read_calls _ (H.holds 990 _ rfl) ((H.rd 1001 rfl)) (hbf _ hmk)) rfl rfl ?_
  rintro _ w ⟨o, Ad, cd, ob, rfl, hm_, hr_, hO_⟩; refine ⟨_, rfl, ?_⟩; clear F; intro a F; have H := Hp.rowOut H 70 hm_ hr_
  refine la F rfl (x_move (F.t 72 rfl)) fun a F => la F rfl (x_extract (F.t 69 rfl) rfl) fun a F => la F rfl (x_extract (F.t 69 rfl) rfl) fun a F => ?_
  refine lp rfl ?_
  refine w_alloc 15 F H rfl ty93 ?_
  clear F H; intro a w b15 F H
  refine lp rfl ?_
  refine w_storeA 15 H ty93 rfl (F.t 15 rfl) (F.t 73 rfl) rfl (by simp [Value.cells, Value.oneCell']) rfl ?_
  clear H; intro w H
  refine la F rfl (x_assign (F.t 74 rfl)) fun a F => wn (hK20 _ _ ?_)
  refine wp_seq_k fun _ hK21 => ?_
  refine sr fun _ hK22 => la F rfl (x_move (F.t 16 rfl)) fun a F => la F rfl (x_not (F.t 75 rfl)) fun a F => wn (hK22 _ _ ?_)
  refine wp_cond_split (F.t 76 rfl) (fun hc76 => ?_) (fun hc76 => ?_)
  ·have hk76_6 := hc76; try simp only [bL] at hc76
   have hz : NoQ bs := noQ_op hdec hc63 hc68 hO_ hc76
   refine sr fun _ hK23 => la F rfl (x_buildS (cells := #[.string (strOfNums []), .int .i64 0, .slice none 0 0]) (places := #[(0, 1), (1, 1), (2, 1)]) Tryz.underlying39 ty39 (by kernel_rfl) Array.map_empty rfl) fun a F => ?_
   refine lp rfl ?_
   refine w_storeA 2 H ty39 rfl (F.t 2 rfl) (F.t 77 rfl) rfl (by simp [Value.cells, Value.oneCell']) rfl ?_
   clear H; intro w H
   refine la F rfl (x_assign rfl) fun a F => wn (hK23 _ _ ?_)
   refine wp_ret ?_
   try simp only [Exit.then, Exit.inBlock]
   exact fin_ret F (resct F rfl rfl rfl (H.at 2 rfl) ty39 rfl) ⟨zR, none, 0, (fun _ => False), 221, rfl, H.mods, Rd.nil _ _ _, (fun k h => h.elim), DecQ.no hz⟩
  have hk76_7 := hc76; try simp only [bL] at hc76
  obtain rfl : ob = true := by simpa using hc76
  refine wp_skip (hK21 _ _ ?_)
  refine wp_region_lit ?_
  have hfr70 : ∀ kb, (Value.slice Ad o.timer.steps.length cd).ownBlock = some kb → w0.heap.size ≤ kb := fun kb h => (H.mine 70 _ rfl kb h).resolve_left (fun h => h)
  have H := H.freeze 70 rfl (fun kb => (Value.slice Ad o.timer.steps.length cd).ownBlock = some kb) (fun kb => ⟨fun h => .inr h, fun h => h.resolve_left id⟩)
  refine la F rfl (x_faddr Tryz.underlying39 rfl ty37 (by decide) (F.t 12 rfl) rfl) fun a F => la F rfl (x_load1 ty37 (F.t 78 rfl) (blk_cell (H.at 12 rfl) 2 rfl)) fun a F => la F rfl (x_loadn ty93 (F.t 15 rfl) rfl (blk_whole (H.at 15 rfl))) fun a F => ?_
  refine lp rfl ?_
  refine w_lit1 81 OpdE o #[.int .i64 o.kind, .string (strOfNums o.key), .int .i64 o.step.1, .string (strOfNums o.step.2.1), .string (strOfNums o.step.2.2.1), .int .i64 o.step.2.2.2, .string (strOfNums o.timer.name), .int .i64 o.timer.ver, .int .u64 o.timer.tick, .int .u64 o.timer.every, .slice Ad o.timer.steps.length cd] (fun kb => (Value.slice Ad o.timer.steps.length cd).ownBlock = some kb) F H rfl Tryz.underlying37 ty93 (by simp only [bM, F.t 80 rfl] <;> rfl) (by decide) (by kernel_rfl) (opd_mk o ((H.rd 70 rfl))) (fun kb hk => ⟨70, _, rfl, hk⟩) ?_
  clear F H; intro a w b81 F hb81_ H
  refine lp rfl ?_
  refine w_append 61 81 (xs := os) (ys := ([o])) F H rfl Tryz.underlying37 ty93 rfl rfl rfl rfl ((H.rd 81 rfl)) oI (F.t 79 rfl) (F.t 81 rfl) (by simp only [lN] at *; omega) (by simp only [lN, maxLen] at *; omega) (fun kb => oko kb ∨ (fun kb => (fun kb => (Value.slice Ad o.timer.steps.length cd).ownBlock = some kb) kb ∨ kb = b81) kb) (fun w' v' h => h) (by rintro k_ (hk_ | hk_); exact .inl hk_; exact .inr hk_) ?_
  clear F H; intro a w v82 F H
  obtain ⟨A82, c82, rfl⟩ := (H.row 61 rfl).form
  refine la F rfl (x_faddr Tryz.underlying39 rfl ty37 (by decide) (F.t 12 rfl) rfl) fun a F => ?_
  refine lp rfl ?_
  refine w_store 12 H ty37 rfl (F.t 83 rfl) (F.t 82 rfl) rfl (one1 rfl rfl) (by first | decide | exact Nat.le_of_ble_eq_true rfl) ?_
  clear H; intro w H
  refine wn (hK16 _ _ ?_)
  refine wp_region_lit ?_
  refine la F rfl (x_add (F.t 62 rfl) rfl (w64 (by omega) (by omega))) fun a F => la F rfl (x_move (F.t 84 rfl)) fun a F => ?_
  refine wpList_nil ?_
  exact ⟨_, by omega, ⟨k + 1, A82, c82, (os ++ [o]), (fun kb => oko kb ∨ (fun kb => (fun kb => (Value.slice Ad o.timer.steps.length cd).ownBlock = some kb) kb ∨ kb = b81) kb), rfl, by omega, hq0_1.op hc63 hc68 hO_, (fun x hx => by rcases List.mem_append.1 hx with hx | hx; exact hq0_2 x hx; rw [List.mem_singleton.1 hx]; exact hO_.1), (by simp only [lN]; omega), (fun kb h => by rcases h with h | h | rfl; exact hq0_4 kb h; exact hfr70 kb h; exact hb81_.resolve_left id), ((((((F.bare.add F 62 rfl).add F 61 rfl).add F 60 rfl).add F 12 rfl).add F 2 rfl).add F 0 rfl), H.sub _ (sub_cons (sub_cons (sub_cons (sub_cons (sub_cons (sub_cons (sub_cons (sub_cons (sub_nil _) 61 rfl) 12 rfl) 36 rfl) 31 rfl) 19 rfl) 2 rfl) 990 rfl) 901 rfl)⟩⟩
 have hk63_8 := hc63; try simp only [bL] at hc63
 obtain rfl : k = dl.length := by omega
 have hMB : SReqB (zQ dl os) := ⟨fnd_byte hbf 1, (by have := numV_range (fnd_byte hbf 2); exact ⟨by show (_ : Int) ≤ numV _; omega, by show numV _ < (_ : Int); omega⟩), hq0_2⟩
 refine wp_exit ?_
 refine hK12 _ _ ?_
 refine wp_seq_k fun _ hK24 => ?_
 refine sr fun _ hK25 => la F rfl (x_loadn ty39 (F.t 12 rfl) rfl (blk_whole (H.at 12 rfl))) fun a F => ?_
 refine lp rfl ?_
 refine w_call F (x_enter Tryz.func16 (by kernel_rfl) rfl (by simp only [bM, F.t 86 rfl] <;> rfl)) (encQ_calls (r := (zQ dl os)) _ (H.holds 990 _ rfl) (Row.rd (ok' := fun k_ => oko k_ ∨ (.slice Ao os.length co : Value).ownBlock = some k_) (H.row 61 rfl) (fun _ hk_ _ => .inl hk_) (fun _ hk_ => .inr hk_)) hMB) rfl rfl ?_
 rintro _ w ⟨vr80, rfl, hm_, hr_⟩; refine ⟨_, rfl, ?_⟩; clear F; intro a F; have H := Hp.rowOut H 80 hm_ hr_; obtain ⟨Ar80, cr80, rfl⟩ := (H.row 80 rfl).form
 refine la F rfl (x_move (F.t 87 rfl)) fun a F => la F rfl (x_extract (F.t 85 rfl) rfl) fun a F => la F rfl (x_extract (F.t 85 rfl) rfl) fun a F => la F rfl (x_assign (F.t 88 rfl)) fun a F => la F rfl (x_assign (F.t 89 rfl)) fun a F => wn (hK25 _ _ (sr fun _ hK26 => la F rfl (x_move (F.t 18 rfl)) fun a F => ?_))
 refine la F rfl (x_neq (F.t 90 rfl) rfl) fun a F => la F rfl (x_move (F.t 91 rfl)) fun a F => ?_
 refine split_bool F 92 rfl (fun hb92 => ?_) (fun hb92 => ?_)
 ·have hc92 := hb92; try simp only [bL] at hc92
  have hz : NoQ bs := noQ_end hdec hq0_1 (fun h => hc92 h.1)
  refine los F hb92 rfl fun a F => los F hb92 rfl fun a F => los F hb92 rfl fun a F => los F hb92 rfl fun a F => la F rfl (x_pickT (F.t 92 rfl) hb92 rfl) fun a F => wn (hK26 _ _ ?_)
  refine wp_cond_true (F.t 97 rfl) ?_
  refine sr fun _ hK27 => la F rfl (x_buildS (cells := #[.string (strOfNums []), .int .i64 0, .slice none 0 0]) (places := #[(0, 1), (1, 1), (2, 1)]) Tryz.underlying39 ty39 (by kernel_rfl) Array.map_empty rfl) fun a F => ?_
  refine lp rfl ?_
  refine w_storeA 2 H ty39 rfl (F.t 2 rfl) (F.t 98 rfl) rfl (by simp [Value.cells, Value.oneCell']) rfl ?_
  clear H; intro w H
  refine la F rfl (x_assign rfl) fun a F => wn (hK27 _ _ ?_)
  refine wp_ret ?_
  try simp only [Exit.then, Exit.inBlock]
  exact fin_ret F (resct F rfl rfl rfl (H.at 2 rfl) ty39 rfl) ⟨zR, none, 0, (fun _ => False), 221, rfl, H.mods, Rd.nil _ _ _, (fun k h => h.elim), DecQ.no hz⟩
 have hc92 := hb92; try simp only [bL] at hc92
 refine lgs F hb92 rfl (x_move (F.t 17 rfl)) fun a F => lgs F hb92 rfl (x_move (F.t 0 rfl)) fun a F => ?_
 refine lpo ((wo F rfl).trans (by rw [hb92]; rfl)) ?_
 refine w_call F (x_enter Tryz.func40 (by kernel_rfl) rfl (by simp only [bM, F.t 93 rfl, F.t 94 rfl] <;> rfl)) (bequal_calls _ (Row.rd (ok' := fun k_ => (fun _ => False) k_ ∨ (.slice Ar80 (encQ (zQ dl os)).length cr80 : Value).ownBlock = some k_) (H.row 80 rfl) (fun _ hk_ _ => .inl hk_) (fun _ hk_ => .inr hk_)) ((H.rd 901 rfl)) (encQ_byte hMB) hby) rfl rfl ?_
 rintro _ w ⟨rfl, hm_⟩; refine ⟨_, rfl, ?_⟩; clear F; intro a F; have H := H.same hm_
 refine lgs F hb92 rfl (x_not (F.t 95 rfl)) fun a F => la F rfl (x_pickF (F.t 92 rfl) hb92 (F.t 96 rfl)) fun a F => wn (hK26 _ _ ?_)
 refine wp_cond_split (F.t 97 rfl) (fun hc97 => ?_) (fun hc97 => ?_)
 ·have hk97_9 := hc97; try simp only [bL] at hc97
  have hz : NoQ bs := noQ_end hdec hq0_1 (fun h => hc97 h.2)
  refine sr fun _ hK28 => la F rfl (x_buildS (cells := #[.string (strOfNums []), .int .i64 0, .slice none 0 0]) (places := #[(0, 1), (1, 1), (2, 1)]) Tryz.underlying39 ty39 (by kernel_rfl) Array.map_empty rfl) fun a F => ?_
  refine lp rfl ?_
  refine w_storeA 2 H ty39 rfl (F.t 2 rfl) (F.t 98 rfl) rfl (by simp [Value.cells, Value.oneCell']) rfl ?_
  clear H; intro w H
  refine la F rfl (x_assign rfl) fun a F => wn (hK28 _ _ ?_)
  refine wp_ret ?_
  try simp only [Exit.then, Exit.inBlock]
  exact fin_ret F (resct F rfl rfl rfl (H.at 2 rfl) ty39 rfl) ⟨zR, none, 0, (fun _ => False), 221, rfl, H.mods, Rd.nil _ _ _, (fun k h => h.elim), DecQ.no hz⟩
 have hk97_10 := hc97; try simp only [bL] at hc97
 refine wp_skip (hK24 _ _ (sr fun _ hK29 => la F rfl (x_loadn ty39 (F.t 12 rfl) rfl (blk_whole (H.at 12 rfl))) fun a F => ?_))
 refine lp rfl ?_
 refine w_storeA 2 H ty39 rfl (F.t 2 rfl) (F.t 99 rfl) rfl (by simp [Value.cells, Value.oneCell']) rfl ?_
 clear H; intro w H
 refine la F rfl (x_assign rfl) fun a F => wn (hK29 _ _ ?_)
 refine wp_ret ?_
 try simp only [Exit.then, Exit.inBlock]
 have hE : encQE (zQ dl os) = 0 := by first | exact hc97 | exact hc92 | exact hc63 | exact hc53 | exact hc50 | exact hc46
 have hX : encQ (zQ dl os) = bs := by first | exact hc97 | exact hc92 | exact hc63 | exact hc53 | exact hc50 | exact hc46
 exact fin_ret F (resct F rfl rfl rfl (H.at 2 rfl) ty39 rfl) ⟨(zQ dl os), Ao, co, (fun k => oko k ∨ (Value.slice Ao os.length co).ownBlock = some k), 0, rfl, H.mods, Row.rd (H.row 61 rfl) (fun k h _ => .inl h) (fun k h => .inr h), (fun k h => by rcases h with h | h; exact ⟨hq0_4 k h, H.inb 61 _ rfl k (.inr h)⟩; exact ⟨(H.mine 61 _ rfl k h).resolve_left id, H.inb 61 _ rfl k (.inl h)⟩), ⟨hMB, .inl ⟨rfl, encQE0 hE, hX⟩⟩⟩
end Go.Proofs.YtiiklnghnifmjaaGreatDoor.Act
