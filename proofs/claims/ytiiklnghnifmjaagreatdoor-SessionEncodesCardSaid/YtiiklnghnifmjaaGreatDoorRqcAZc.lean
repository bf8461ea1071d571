/- The document's Decode of changes, walked. -/
import Derived.Test.YtiiklnghnifmjaaGreatDoorRqaAZc
import Derived.Test.YtiiklnghnifmjaaGreatDoorRqbAZc
set_option linter.unusedVariables false
set_option maxRecDepth 100000
set_option maxHeartbeats 1000000
set_option linter.unusedSimpArgs false
namespace Go.Proofs.YtiiklnghnifmjaaGreatDoor.Act
open Go.RowKit Go.Proofs.YtiiklnghnifmjaaGreatDoor.Sx Go.Proofs.YtiiklnghnifmjaaGreatDoor.Cod Go.Proofs.YtiiklnghnifmjaaGreatDoor.Num
theorem rdecC_calls (w0 : World) {ok : Nat → Prop} {A : Option Addr} {bs : List Int} {c : Nat} (hrb : Rd (.int .u8) w0 ok A bs c) (hby : Byte bs) : Calls Tryz.prog 43 #[.slice A bs.length c] w0 fun e w' => ∃ (x : ChangeD) (Ad : Option Addr) (cd : Nat) (g : Int), e = .returned (.tuple #[.agg #[.int .i64 x.kind, .string (strOfNums x.key), .string (strOfNums x.value), .string (strOfNums x.timer.name), .int .i64 x.timer.ver, .int .u64 x.timer.tick, .int .u64 x.timer.every, .slice Ad x.timer.steps.length cd], .int .i64 g]) ∧ Mods (fun _ => False) w0 w' ∧ RowOut StE 91 w0 w' (.slice Ad x.timer.steps.length cd) x.timer.steps ∧ DecC bs x g := by
 refine cow Tryz.func43 rfl Tryz.ntmps43 (Nat.le_of_ble_eq_true rfl) fun a F => ?_
 have H := Hp.nil (fun _ => False) w0
 have H := H.arg 901 hrb.all (fun _ h => ⟨h, fun h => h⟩)
 have hleb := hrb.le; unfold maxLen at hleb
 refine sr fun _ hK1 => ?_
 refine lp rfl ?_
 refine w_alloc 2 F H rfl ty66 ?_
 clear F H; intro a w b2 F H
 refine la F rfl (x_assign rfl) fun a F => wn (hK1 _ _ (sr fun _ hK2 => la F rfl (x_move (F.t 0 rfl)) fun a F => ?_))
 refine lp rfl ?_
 refine w_call F (x_enter Tryz.func41 (by kernel_rfl) rfl (by simp only [bM, F.t 18 rfl] <;> rfl)) (refDec_calls _ ((H.rd 901 rfl)) hby) rfl rfl ?_
 rintro _ w ⟨vr19, rfl, hm_, okr19, hr_, hf_, ho19_⟩; refine ⟨_, rfl, ?_⟩; clear F; intro a F; have H := H.newRow 19 hm_ hr_ hf_ ho19_; obtain ⟨Ar19, cr19, rfl⟩ := (H.row 19 rfl).form
 refine la F rfl (x_move (F.t 19 rfl)) fun a F => la F rfl (x_extract (F.t 17 rfl) rfl) fun a F => la F rfl (x_extract (F.t 17 rfl) rfl) fun a F => la F rfl (x_assign (F.t 20 rfl)) fun a F => la F rfl (x_assign (F.t 21 rfl)) fun a F => ?_
 obtain ⟨dl, hdl0⟩ : ∃ dl, dl = (decR bs).getD [] := ⟨_, rfl⟩
 rw [← hdl0] at F H
 have hsh : short dl = true := by rw [hdl0]; exact dl_short hby
 have hbf : ∀ f ∈ dl, Byte f.2 := by rw [hdl0]; exact dl_byte hby
 have H := H.freeze 19 rfl (fun kb => okr19 kb ∨ (Value.slice Ar19 dl.length cr19).ownBlock = some kb) (fun kb => Iff.rfl)
 refine wn (hK2 _ _ ?_)
 refine wp_seq_k fun _ hK3 => ?_
 refine sr fun _ hK4 => la F rfl (x_move (F.t 5 rfl)) fun a F => la F rfl (x_neq (F.t 22 rfl) rfl) fun a F => la F rfl (x_move (F.t 23 rfl)) fun a F => ?_
 refine split_bool F 24 rfl (fun hb24 => ?_) (fun hb24 => ?_)
 ·have hc24 := hb24; try simp only [bL] at hc24
  have hz : NoC bs := noC_none (by cases hd : decR bs with | none => rfl | some l => rw [hd] at hc24; exact absurd rfl hc24)
  refine los F hb24 rfl fun a F => los F hb24 rfl fun a F => los F hb24 rfl fun a F => la F rfl (x_pickT (F.t 24 rfl) hb24 rfl) fun a F => la F rfl (x_move (F.t 28 rfl)) fun a F => lo F rfl fun a F => lo F rfl fun a F => lo F rfl fun a F => ?_
  refine lo F rfl fun a F => lo F rfl fun a F => lo F rfl fun a F => la F rfl (x_pickT (F.t 29 rfl) rfl rfl) fun a F => wn (hK4 _ _ ?_)
  refine wp_cond_true (F.t 36 rfl) ?_
  refine sr fun _ hK5 => la F rfl (x_buildS (cells := #[.int .i64 0, .string (strOfNums []), .string (strOfNums []), .string (strOfNums []), .int .i64 0, .int .u64 0, .int .u64 0, .slice none 0 0]) (places := #[(0, 1), (1, 1), (2, 1), (3, 5)]) Tryz.underlying66 ty66 (by kernel_rfl) Array.map_empty rfl) fun a F => ?_
  refine lp rfl ?_
  refine w_storeA 2 H ty66 rfl (F.t 2 rfl) (F.t 37 rfl) rfl (by simp [Value.cells, Value.oneCell']) rfl ?_
  clear H; intro w H
  refine la F rfl (x_assign rfl) fun a F => wn (hK5 _ _ ?_)
  refine wp_ret ?_
  try simp only [Exit.then, Exit.inBlock]
  exact fin_ret F (resct F rfl rfl rfl (H.at 2 rfl) ty66 rfl) ⟨⟨0, [], [], ⟨[], 0, 0, 0, []⟩⟩, none, 0, 12, rfl, H.mods, RowOut.nil _ _ _ _, DecC.no hz⟩
 have hc24 := hb24; try simp only [bL] at hc24
 have hdl : decR bs = some dl := by rw [hdl0]; cases hd : decR bs with | some l => rfl | none => rw [hd] at hc24; exact absurd hc24 (by decide)
 refine lgs F hb24 rfl (x_move (F.t 4 rfl)) fun a F => lgs F hb24 rfl (x_len_slice Tryz.underlying60 (F.t 25 rfl)) fun a F => lgs F hb24 rfl (x_lss (F.t 26 rfl) rfl) fun a F => la F rfl (x_pickF (F.t 24 rfl) hb24 (F.t 27 rfl)) fun a F => la F rfl (x_move (F.t 28 rfl)) fun a F => ?_
 refine split_bool F 29 rfl (fun hb29 => ?_) (fun hb29 => ?_)
 ·have hc29 := hb29; try simp only [bL] at hc29
  have hz : NoC bs := noC_shape hdl (fun h => by have := h.two; omega)
  refine los F hb29 rfl fun a F => los F hb29 rfl fun a F => los F hb29 rfl fun a F => los F hb29 rfl fun a F => los F hb29 rfl fun a F => los F hb29 rfl fun a F => la F rfl (x_pickT (F.t 29 rfl) hb29 rfl) fun a F => wn (hK4 _ _ ?_)
  refine wp_cond_true (F.t 36 rfl) ?_
  refine sr fun _ hK6 => la F rfl (x_buildS (cells := #[.int .i64 0, .string (strOfNums []), .string (strOfNums []), .string (strOfNums []), .int .i64 0, .int .u64 0, .int .u64 0, .slice none 0 0]) (places := #[(0, 1), (1, 1), (2, 1), (3, 5)]) Tryz.underlying66 ty66 (by kernel_rfl) Array.map_empty rfl) fun a F => ?_
  refine lp rfl ?_
  refine w_storeA 2 H ty66 rfl (F.t 2 rfl) (F.t 37 rfl) rfl (by simp [Value.cells, Value.oneCell']) rfl ?_
  clear H; intro w H
  refine la F rfl (x_assign rfl) fun a F => wn (hK6 _ _ ?_)
  refine wp_ret ?_
  try simp only [Exit.then, Exit.inBlock]
  exact fin_ret F (resct F rfl rfl rfl (H.at 2 rfl) ty66 rfl) ⟨⟨0, [], [], ⟨[], 0, 0, 0, []⟩⟩, none, 0, 12, rfl, H.mods, RowOut.nil _ _ _ _, DecC.no hz⟩
 have hc29 := hb29; try simp only [bL] at hc29
 obtain ⟨fA1, fc1, hfr1, hf1_0, hf1_1, hfw1⟩ := Rd.fld ((H.rd 19 rfl)) (gf_some (xs := dl) (i := 0) (by omega) (by omega))
 have H := H.subrd 19 rfl 1001 hfr1 (fun _ h => h)
 have H := H.subcels 19 rfl 1499 hfw1 (Rd.inok ((H.rd 19 rfl)) (by omega) _)
 have H := H.subcel 19 rfl 1500 hf1_0 (Rd.inok ((H.rd 19 rfl)) (by omega) _)
 have H := H.subcel 19 rfl 1501 hf1_1 (Rd.inok ((H.rd 19 rfl)) (by omega) _)
 refine lgs F hb29 rfl (x_move (F.t 4 rfl)) fun a F => lgs F hb29 rfl (x_iaddr_A Tryz.underlying60 ty57 ((H.rd 19 rfl)) (F.t 30 rfl) rfl (by omega) (by omega) _) fun a F => lgs F hb29 rfl (x_faddrA ((H.rd 19 rfl)) (by omega) _ Tryz.underlying57 rfl ty27 (by decide) (F.t 31 rfl) rfl) fun a F => lgs F hb29 rfl (x_load1 ty27 (F.t 32 rfl) (H.holds 1501 _ rfl)) fun a F => lgs F hb29 rfl (x_len_slice Tryz.underlying27 (F.t 33 rfl)) fun a F => lgs F hb29 rfl (x_neq (F.t 34 rfl) rfl) fun a F => la F rfl (x_pickF (F.t 29 rfl) hb29 (F.t 35 rfl)) fun a F => wn (hK4 _ _ ?_)
 refine wp_cond_split (F.t 36 rfl) (fun hc36 => ?_) (fun hc36 => ?_)
 ·have hk36_1 := hc36; try simp only [bL] at hc36
  have hz : NoC bs := noC_shape hdl (fun h => by have := h.head; omega)
  refine sr fun _ hK7 => la F rfl (x_buildS (cells := #[.int .i64 0, .string (strOfNums []), .string (strOfNums []), .string (strOfNums []), .int .i64 0, .int .u64 0, .int .u64 0, .slice none 0 0]) (places := #[(0, 1), (1, 1), (2, 1), (3, 5)]) Tryz.underlying66 ty66 (by kernel_rfl) Array.map_empty rfl) fun a F => ?_
  refine lp rfl ?_
  refine w_storeA 2 H ty66 rfl (F.t 2 rfl) (F.t 37 rfl) rfl (by simp [Value.cells, Value.oneCell']) rfl ?_
  clear H; intro w H
  refine la F rfl (x_assign rfl) fun a F => wn (hK7 _ _ ?_)
  refine wp_ret ?_
  try simp only [Exit.then, Exit.inBlock]
  exact fin_ret F (resct F rfl rfl rfl (H.at 2 rfl) ty66 rfl) ⟨⟨0, [], [], ⟨[], 0, 0, 0, []⟩⟩, none, 0, 12, rfl, H.mods, RowOut.nil _ _ _ _, DecC.no hz⟩
 have hk36_2 := hc36; try simp only [bL] at hc36
 have hl1 : ((gf dl 0).2.length : Int) = 1 := by omega
 refine wp_skip (hK3 _ _ (sr fun _ hK8 => la F rfl (x_move (F.t 4 rfl)) fun a F => la F rfl (x_iaddr_A Tryz.underlying60 ty57 ((H.rd 19 rfl)) (F.t 38 rfl) rfl (by omega) (by omega) _) fun a F => la F rfl (x_faddrA ((H.rd 19 rfl)) (by omega) _ Tryz.underlying57 rfl ty27 (by decide) (F.t 39 rfl) rfl) fun a F => la F rfl (x_load1 ty27 (F.t 40 rfl) (H.holds 1501 _ rfl)) fun a F => la F rfl (x_iaddr_A Tryz.underlying27 ty5 ((H.rd 1001 rfl)) (F.t 41 rfl) rfl (by omega) (by omega) _) fun a F => ?_))
 refine la F rfl (x_load1 ty5 (F.t 42 rfl) (((H.rd 1001 rfl)).cellA (gi_some (i := 0) (by omega) (by omega)))) fun a F => la F rfl (x_conv Tryz.underlying61 ⟨_, Tryz.underlying5⟩ (F.t 43 rfl) (w64 (by have := ((gb0 hbf).gi 0); omega) (by have := ((gb0 hbf).gi 0); omega))) fun a F => la F rfl (x_buildS (cells := #[.int .i64 (gi (gf dl 0).2 0), .string (strOfNums []), .string (strOfNums []), .string (strOfNums []), .int .i64 0, .int .u64 0, .int .u64 0, .slice none 0 0]) (places := #[(0, 1), (1, 1), (2, 1), (3, 5)]) Tryz.underlying66 ty66 (by kernel_rfl) (by simp only [bM, F.t 44 rfl] <;> rfl) rfl) fun a F => ?_
 refine lp rfl ?_
 refine w_alloc 6 F H rfl ty66 ?_
 clear F H; intro a w b6 F H
 refine lp rfl ?_
 refine w_storeA 6 H ty66 rfl (F.t 6 rfl) (F.t 45 rfl) rfl (by simp [Value.cells, Value.oneCell']) rfl ?_
 clear H; intro w H
 refine wn (hK8 _ _ ?_)
 refine wp_seq_k fun _ hK9 => ?_
 refine sr fun _ hK10 => la F rfl (x_faddr Tryz.underlying66 rfl ty61 (by decide) (F.t 6 rfl) rfl) fun a F => la F rfl (x_load1 ty61 (F.t 46 rfl) (blk_cell (H.at 6 rfl) 0 rfl)) fun a F => la F rfl (x_eql (F.t 47 rfl) rfl) fun a F => wn (hK10 _ _ ?_)
 refine wp_cond_split (F.t 48 rfl) (fun hc48 => ?_) (fun hc48 => ?_)
 ·have hk48_3 := hc48; try simp only [bL] at hc48
  refine wp_seq_k fun _ hK11 => ?_
  refine sr fun _ hK12 => la F rfl (x_move (F.t 4 rfl)) fun a F => la F rfl (x_len_slice Tryz.underlying60 (F.t 49 rfl)) fun a F => la F rfl (x_neq (F.t 50 rfl) rfl) fun a F => wn (hK12 _ _ ?_)
  refine wp_cond_split (F.t 51 rfl) (fun hc51 => ?_) (fun hc51 => ?_)
  ·have hk51_4 := hc51; try simp only [bL] at hc51
   have hz : NoC bs := noC_shape hdl (fun h => by have := (h.tim hc48).1; omega)
   refine sr fun _ hK13 => la F rfl (x_buildS (cells := #[.int .i64 0, .string (strOfNums []), .string (strOfNums []), .string (strOfNums []), .int .i64 0, .int .u64 0, .int .u64 0, .slice none 0 0]) (places := #[(0, 1), (1, 1), (2, 1), (3, 5)]) Tryz.underlying66 ty66 (by kernel_rfl) Array.map_empty rfl) fun a F => ?_
   refine lp rfl ?_
   refine w_storeA 2 H ty66 rfl (F.t 2 rfl) (F.t 52 rfl) rfl (by simp [Value.cells, Value.oneCell']) rfl ?_
   clear H; intro w H
   refine la F rfl (x_assign rfl) fun a F => wn (hK13 _ _ ?_)
   refine wp_ret ?_
   try simp only [Exit.then, Exit.inBlock]
   exact fin_ret F (resct F rfl rfl rfl (H.at 2 rfl) ty66 rfl) ⟨⟨0, [], [], ⟨[], 0, 0, 0, []⟩⟩, none, 0, 12, rfl, H.mods, RowOut.nil _ _ _ _, DecC.no hz⟩
  have hk51_5 := hc51; try simp only [bL] at hc51
  have hl6 : (dl.length : Int) = 6 := by omega
  refine wp_skip (hK11 _ _ (sr fun _ hK14 => ?_))
  obtain ⟨fA2, fc2, hfr2, hf2_0, hf2_1, hfw2⟩ := Rd.fld ((H.rd 19 rfl)) (gf_some (xs := dl) (i := 2) (by omega) (by omega))
  have H := H.subrd 19 rfl 2001 hfr2 (fun _ h => h)
  have H := H.subcels 19 rfl 2499 hfw2 (Rd.inok ((H.rd 19 rfl)) (by omega) _)
  have H := H.subcel 19 rfl 2500 hf2_0 (Rd.inok ((H.rd 19 rfl)) (by omega) _)
  have H := H.subcel 19 rfl 2501 hf2_1 (Rd.inok ((H.rd 19 rfl)) (by omega) _)
  refine la F rfl (x_move (F.t 4 rfl)) fun a F => la F rfl (x_iaddr_A Tryz.underlying60 ty57 ((H.rd 19 rfl)) (F.t 54 rfl) rfl (by omega) (by omega) _) fun a F => la F rfl (x_faddrA ((H.rd 19 rfl)) (by omega) _ Tryz.underlying57 rfl ty27 (by decide) (F.t 55 rfl) rfl) fun a F => la F rfl (x_load1 ty27 (F.t 56 rfl) (H.holds 2501 _ rfl)) fun a F => ?_
  refine lp rfl ?_
  refine w_call F (x_enter Tryz.func42 (by kernel_rfl) rfl (by simp only [bM, F.t 57 rfl] <;> rfl)) (refNum_calls _ ((H.rd 2001 rfl)) (gb2 hbf)) rfl rfl ?_
  rintro _ w ⟨rfl, hm_⟩; refine ⟨_, rfl, ?_⟩; clear F; intro a F; have H := H.same hm_
  refine la F rfl (x_move (F.t 58 rfl)) fun a F => la F rfl (x_extract (F.t 53 rfl) rfl) fun a F => la F rfl (x_extract (F.t 53 rfl) rfl) fun a F => la F rfl (x_assign (F.t 59 rfl)) fun a F => la F rfl (x_assign (F.t 60 rfl)) fun a F => wn (hK14 _ _ (sr fun _ hK15 => ?_))
  obtain ⟨fA3, fc3, hfr3, hf3_0, hf3_1, hfw3⟩ := Rd.fld ((H.rd 19 rfl)) (gf_some (xs := dl) (i := 3) (by omega) (by omega))
  have H := H.subrd 19 rfl 3001 hfr3 (fun _ h => h)
  have H := H.subcels 19 rfl 3499 hfw3 (Rd.inok ((H.rd 19 rfl)) (by omega) _)
  have H := H.subcel 19 rfl 3500 hf3_0 (Rd.inok ((H.rd 19 rfl)) (by omega) _)
  have H := H.subcel 19 rfl 3501 hf3_1 (Rd.inok ((H.rd 19 rfl)) (by omega) _)
  refine la F rfl (x_move (F.t 4 rfl)) fun a F => la F rfl (x_iaddr_A Tryz.underlying60 ty57 ((H.rd 19 rfl)) (F.t 62 rfl) rfl (by omega) (by omega) _) fun a F => la F rfl (x_faddrA ((H.rd 19 rfl)) (by omega) _ Tryz.underlying57 rfl ty27 (by decide) (F.t 63 rfl) rfl) fun a F => la F rfl (x_load1 ty27 (F.t 64 rfl) (H.holds 3501 _ rfl)) fun a F => ?_
  refine lp rfl ?_
  refine w_call F (x_enter Tryz.func42 (by kernel_rfl) rfl (by simp only [bM, F.t 65 rfl] <;> rfl)) (refNum_calls _ ((H.rd 3001 rfl)) (gb3 hbf)) rfl rfl ?_
  rintro _ w ⟨rfl, hm_⟩; refine ⟨_, rfl, ?_⟩; clear F; intro a F; have H := H.same hm_
  refine la F rfl (x_move (F.t 66 rfl)) fun a F => la F rfl (x_extract (F.t 61 rfl) rfl) fun a F => la F rfl (x_extract (F.t 61 rfl) rfl) fun a F => la F rfl (x_assign (F.t 67 rfl)) fun a F => la F rfl (x_assign (F.t 68 rfl)) fun a F => wn (hK15 _ _ (sr fun _ hK16 => ?_))
  obtain ⟨fA4, fc4, hfr4, hf4_0, hf4_1, hfw4⟩ := Rd.fld ((H.rd 19 rfl)) (gf_some (xs := dl) (i := 4) (by omega) (by omega))
  have H := H.subrd 19 rfl 4001 hfr4 (fun _ h => h)
  have H := H.subcels 19 rfl 4499 hfw4 (Rd.inok ((H.rd 19 rfl)) (by omega) _)
  have H := H.subcel 19 rfl 4500 hf4_0 (Rd.inok ((H.rd 19 rfl)) (by omega) _)
  have H := H.subcel 19 rfl 4501 hf4_1 (Rd.inok ((H.rd 19 rfl)) (by omega) _)
  refine la F rfl (x_move (F.t 4 rfl)) fun a F => la F rfl (x_iaddr_A Tryz.underlying60 ty57 ((H.rd 19 rfl)) (F.t 70 rfl) rfl (by omega) (by omega) _) fun a F => la F rfl (x_faddrA ((H.rd 19 rfl)) (by omega) _ Tryz.underlying57 rfl ty27 (by decide) (F.t 71 rfl) rfl) fun a F => la F rfl (x_load1 ty27 (F.t 72 rfl) (H.holds 4501 _ rfl)) fun a F => ?_
  refine lp rfl ?_
  refine w_call F (x_enter Tryz.func42 (by kernel_rfl) rfl (by simp only [bM, F.t 73 rfl] <;> rfl)) (refNum_calls _ ((H.rd 4001 rfl)) (gb4 hbf)) rfl rfl ?_
  rintro _ w ⟨rfl, hm_⟩; refine ⟨_, rfl, ?_⟩; clear F; intro a F; have H := H.same hm_
  refine la F rfl (x_move (F.t 74 rfl)) fun a F => la F rfl (x_extract (F.t 69 rfl) rfl) fun a F => la F rfl (x_extract (F.t 69 rfl) rfl) fun a F => la F rfl (x_assign (F.t 75 rfl)) fun a F => la F rfl (x_assign (F.t 76 rfl)) fun a F => wn (hK16 _ _ (sr fun _ hK17 => ?_))
  obtain ⟨fA5, fc5, hfr5, hf5_0, hf5_1, hfw5⟩ := Rd.fld ((H.rd 19 rfl)) (gf_some (xs := dl) (i := 5) (by omega) (by omega))
  have H := H.subrd 19 rfl 5001 hfr5 (fun _ h => h)
  have H := H.subcels 19 rfl 5499 hfw5 (Rd.inok ((H.rd 19 rfl)) (by omega) _)
  have H := H.subcel 19 rfl 5500 hf5_0 (Rd.inok ((H.rd 19 rfl)) (by omega) _)
  have H := H.subcel 19 rfl 5501 hf5_1 (Rd.inok ((H.rd 19 rfl)) (by omega) _)
  refine la F rfl (x_move (F.t 4 rfl)) fun a F => la F rfl (x_iaddr_A Tryz.underlying60 ty57 ((H.rd 19 rfl)) (F.t 78 rfl) rfl (by omega) (by omega) _) fun a F => la F rfl (x_faddrA ((H.rd 19 rfl)) (by omega) _ Tryz.underlying57 rfl ty27 (by decide) (F.t 79 rfl) rfl) fun a F => la F rfl (x_load1 ty27 (F.t 80 rfl) (H.holds 5501 _ rfl)) fun a F => ?_
  refine lp rfl ?_
  refine w_call F (x_enter Tryz.func77 (by kernel_rfl) rfl (by simp only [bM, F.t 81 rfl] <;> rfl)) (radec_calls _ ((H.rd 5001 rfl)) (gb5 hbf)) rfl rfl ?_
  rintro _ w ⟨vr82, rfl, hm_, hr_⟩; refine ⟨_, rfl, ?_⟩; clear F; intro a F; have H := Hp.rowOut H 82 hm_ hr_; obtain ⟨Ar82, cr82, rfl⟩ := (H.row 82 rfl).form
  refine la F rfl (x_move (F.t 82 rfl)) fun a F => la F rfl (x_extract (F.t 77 rfl) rfl) fun a F => la F rfl (x_extract (F.t 77 rfl) rfl) fun a F => la F rfl (x_assign (F.t 83 rfl)) fun a F => la F rfl (x_assign (F.t 84 rfl)) fun a F => wn (hK17 _ _ ?_)
  refine wp_seq_k fun _ hK18 => ?_
  refine sr fun _ hK19 => la F rfl (x_move (F.t 8 rfl)) fun a F => la F rfl (x_not (F.t 85 rfl)) fun a F => la F rfl (x_move (F.t 86 rfl)) fun a F => ?_
  refine split_bool F 87 rfl (fun hb87 => ?_) (fun hb87 => ?_)
  ·have hc87 := hb87; try simp only [bL] at hc87
   have hz : NoC bs := noC_shape hdl (fun hq => by obtain ⟨_, q2, q3, q4, q5, q6⟩ := hq.tim hc48; first | omega | (simp [q2, q3, q4] at hc87; done) | exact absurd q5 hc87 | (simp [q2, q3, q4] at hc36; done) | exact absurd q5 hc36 | (simp [q2, q3, q4] at hc29; done) | exact absurd q5 hc29)
   refine los F hb87 rfl fun a F => los F hb87 rfl fun a F => la F rfl (x_pickT (F.t 87 rfl) hb87 rfl) fun a F => la F rfl (x_move (F.t 90 rfl)) fun a F => lo F rfl fun a F => lo F rfl fun a F => la F rfl (x_pickT (F.t 91 rfl) rfl rfl) fun a F => la F rfl (x_move (F.t 94 rfl)) fun a F => ?_
   refine lo F rfl fun a F => lo F rfl fun a F => la F rfl (x_pickT (F.t 95 rfl) rfl rfl) fun a F => la F rfl (x_move (F.t 98 rfl)) fun a F => lo F rfl fun a F => lo F rfl fun a F => la F rfl (x_pickT (F.t 99 rfl) rfl rfl) fun a F => wn (hK19 _ _ ?_)
   refine wp_cond_true (F.t 102 rfl) ?_
   refine sr fun _ hK20 => la F rfl (x_buildS (cells := #[.int .i64 0, .string (strOfNums []), .string (strOfNums []), .string (strOfNums []), .int .i64 0, .int .u64 0, .int .u64 0, .slice none 0 0]) (places := #[(0, 1), (1, 1), (2, 1), (3, 5)]) Tryz.underlying66 ty66 (by kernel_rfl) Array.map_empty rfl) fun a F => ?_
   refine lp rfl ?_
   refine w_storeA 2 H ty66 rfl (F.t 2 rfl) (F.t 103 rfl) rfl (by simp [Value.cells, Value.oneCell']) rfl ?_
   clear H; intro w H
   refine la F rfl (x_assign rfl) fun a F => wn (hK20 _ _ ?_)
   refine wp_ret ?_
   try simp only [Exit.then, Exit.inBlock]
   exact fin_ret F (resct F rfl rfl rfl (H.at 2 rfl) ty66 rfl) ⟨⟨0, [], [], ⟨[], 0, 0, 0, []⟩⟩, none, 0, 12, rfl, H.mods, RowOut.nil _ _ _ _, DecC.no hz⟩
  have hc87 := hb87; try simp only [bL] at hc87
  refine lgs F hb87 rfl (x_move (F.t 10 rfl)) fun a F => lgs F hb87 rfl (x_not (F.t 88 rfl)) fun a F => la F rfl (x_pickF (F.t 87 rfl) hb87 (F.t 89 rfl)) fun a F => la F rfl (x_move (F.t 90 rfl)) fun a F => ?_
  refine split_bool F 91 rfl (fun hb91 => ?_) (fun hb91 => ?_)
  ·have hc91 := hb91; try simp only [bL] at hc91
   have hz : NoC bs := noC_shape hdl (fun hq => by obtain ⟨_, q2, q3, q4, q5, q6⟩ := hq.tim hc48; first | omega | (simp [q2, q3, q4] at hc91; done) | exact absurd q5 hc91 | (simp [q2, q3, q4] at hc87; done) | exact absurd q5 hc87 | (simp [q2, q3, q4] at hc36; done) | exact absurd q5 hc36 | (simp [q2, q3, q4] at hc29; done) | exact absurd q5 hc29)
   refine los F hb91 rfl fun a F => los F hb91 rfl fun a F => la F rfl (x_pickT (F.t 91 rfl) hb91 rfl) fun a F => la F rfl (x_move (F.t 94 rfl)) fun a F => lo F rfl fun a F => lo F rfl fun a F => la F rfl (x_pickT (F.t 95 rfl) rfl rfl) fun a F => la F rfl (x_move (F.t 98 rfl)) fun a F => ?_
   refine lo F rfl fun a F => lo F rfl fun a F => la F rfl (x_pickT (F.t 99 rfl) rfl rfl) fun a F => wn (hK19 _ _ ?_)
   refine wp_cond_true (F.t 102 rfl) ?_
   refine sr fun _ hK21 => la F rfl (x_buildS (cells := #[.int .i64 0, .string (strOfNums []), .string (strOfNums []), .string (strOfNums []), .int .i64 0, .int .u64 0, .int .u64 0, .slice none 0 0]) (places := #[(0, 1), (1, 1), (2, 1), (3, 5)]) Tryz.underlying66 ty66 (by kernel_rfl) Array.map_empty rfl) fun a F => ?_
   refine lp rfl ?_
   refine w_storeA 2 H ty66 rfl (F.t 2 rfl) (F.t 103 rfl) rfl (by simp [Value.cells, Value.oneCell']) rfl ?_
   clear H; intro w H
   refine la F rfl (x_assign rfl) fun a F => wn (hK21 _ _ ?_)
   refine wp_ret ?_
   try simp only [Exit.then, Exit.inBlock]
   exact fin_ret F (resct F rfl rfl rfl (H.at 2 rfl) ty66 rfl) ⟨⟨0, [], [], ⟨[], 0, 0, 0, []⟩⟩, none, 0, 12, rfl, H.mods, RowOut.nil _ _ _ _, DecC.no hz⟩
  have hc91 := hb91; try simp only [bL] at hc91
  refine lgs F hb91 rfl (x_move (F.t 12 rfl)) fun a F => lgs F hb91 rfl (x_not (F.t 92 rfl)) fun a F => la F rfl (x_pickF (F.t 91 rfl) hb91 (F.t 93 rfl)) fun a F => la F rfl (x_move (F.t 94 rfl)) fun a F => ?_
  refine split_bool F 95 rfl (fun hb95 => ?_) (fun hb95 => ?_)
  ·have hc95 := hb95; try simp only [bL] at hc95
   have hz : NoC bs := noC_shape hdl (fun hq => by obtain ⟨_, q2, q3, q4, q5, q6⟩ := hq.tim hc48; first | omega | (simp [q2, q3, q4] at hc95; done) | exact absurd q5 hc95 | (simp [q2, q3, q4] at hc91; done) | exact absurd q5 hc91 | (simp [q2, q3, q4] at hc87; done) | exact absurd q5 hc87 | (simp [q2, q3, q4] at hc36; done) | exact absurd q5 hc36 | (simp [q2, q3, q4] at hc29; done) | exact absurd q5 hc29)
   refine los F hb95 rfl fun a F => los F hb95 rfl fun a F => la F rfl (x_pickT (F.t 95 rfl) hb95 rfl) fun a F => la F rfl (x_move (F.t 98 rfl)) fun a F => lo F rfl fun a F => lo F rfl fun a F => la F rfl (x_pickT (F.t 99 rfl) rfl rfl) fun a F => wn (hK19 _ _ ?_)
   refine wp_cond_true (F.t 102 rfl) ?_
   refine sr fun _ hK22 => la F rfl (x_buildS (cells := #[.int .i64 0, .string (strOfNums []), .string (strOfNums []), .string (strOfNums []), .int .i64 0, .int .u64 0, .int .u64 0, .slice none 0 0]) (places := #[(0, 1), (1, 1), (2, 1), (3, 5)]) Tryz.underlying66 ty66 (by kernel_rfl) Array.map_empty rfl) fun a F => ?_
   refine lp rfl ?_
   refine w_storeA 2 H ty66 rfl (F.t 2 rfl) (F.t 103 rfl) rfl (by simp [Value.cells, Value.oneCell']) rfl ?_
   clear H; intro w H
   refine la F rfl (x_assign rfl) fun a F => wn (hK22 _ _ ?_)
   refine wp_ret ?_
   try simp only [Exit.then, Exit.inBlock]
   exact fin_ret F (resct F rfl rfl rfl (H.at 2 rfl) ty66 rfl) ⟨⟨0, [], [], ⟨[], 0, 0, 0, []⟩⟩, none, 0, 12, rfl, H.mods, RowOut.nil _ _ _ _, DecC.no hz⟩
  have hc95 := hb95; try simp only [bL] at hc95
  refine lgs F hb95 rfl (x_move (F.t 14 rfl)) fun a F => lgs F hb95 rfl (x_neq (F.t 96 rfl) rfl) fun a F => la F rfl (x_pickF (F.t 95 rfl) hb95 (F.t 97 rfl)) fun a F => la F rfl (x_move (F.t 98 rfl)) fun a F => ?_
  refine split_bool F 99 rfl (fun hb99 => ?_) (fun hb99 => ?_)
  ·have hc99 := hb99; try simp only [bL] at hc99
   have hz : NoC bs := noC_shape hdl (fun hq => by obtain ⟨_, q2, q3, q4, q5, q6⟩ := hq.tim hc48; first | omega | (simp [q2, q3, q4] at hc99; done) | exact absurd q5 hc99 | (simp [q2, q3, q4] at hc95; done) | exact absurd q5 hc95 | (simp [q2, q3, q4] at hc91; done) | exact absurd q5 hc91 | (simp [q2, q3, q4] at hc87; done) | exact absurd q5 hc87 | (simp [q2, q3, q4] at hc36; done) | exact absurd q5 hc36 | (simp [q2, q3, q4] at hc29; done) | exact absurd q5 hc29)
   refine los F hb99 rfl fun a F => los F hb99 rfl fun a F => la F rfl (x_pickT (F.t 99 rfl) hb99 rfl) fun a F => wn (hK19 _ _ ?_)
   refine wp_cond_true (F.t 102 rfl) ?_
   refine sr fun _ hK23 => la F rfl (x_buildS (cells := #[.int .i64 0, .string (strOfNums []), .string (strOfNums []), .string (strOfNums []), .int .i64 0, .int .u64 0, .int .u64 0, .slice none 0 0]) (places := #[(0, 1), (1, 1), (2, 1), (3, 5)]) Tryz.underlying66 ty66 (by kernel_rfl) Array.map_empty rfl) fun a F => ?_
   refine lp rfl ?_
   refine w_storeA 2 H ty66 rfl (F.t 2 rfl) (F.t 103 rfl) rfl (by simp [Value.cells, Value.oneCell']) rfl ?_
   clear H; intro w H
   refine la F rfl (x_assign rfl) fun a F => wn (hK23 _ _ ?_)
   refine wp_ret ?_
   try simp only [Exit.then, Exit.inBlock]
   exact fin_ret F (resct F rfl rfl rfl (H.at 2 rfl) ty66 rfl) ⟨⟨0, [], [], ⟨[], 0, 0, 0, []⟩⟩, none, 0, 12, rfl, H.mods, RowOut.nil _ _ _ _, DecC.no hz⟩
  have hc99 := hb99; try simp only [bL] at hc99
  refine lgs F hb99 rfl (x_move (F.t 7 rfl)) fun a F => lgs F hb99 rfl (x_gtr (F.t 100 rfl) rfl) fun a F => la F rfl (x_pickF (F.t 99 rfl) hb99 (F.t 101 rfl)) fun a F => wn (hK19 _ _ ?_)
  refine wp_cond_split (F.t 102 rfl) (fun hc102 => ?_) (fun hc102 => ?_)
  ·have hk102_6 := hc102; try simp only [bL] at hc102
   have hz : NoC bs := noC_shape hdl (fun hq => by obtain ⟨_, q2, q3, q4, q5, q6⟩ := hq.tim hc48; first | omega | (simp [q2, q3, q4] at hc102; done) | exact absurd q5 hc102 | (simp [q2, q3, q4] at hc99; done) | exact absurd q5 hc99 | (simp [q2, q3, q4] at hc95; done) | exact absurd q5 hc95 | (simp [q2, q3, q4] at hc91; done) | exact absurd q5 hc91 | (simp [q2, q3, q4] at hc87; done) | exact absurd q5 hc87 | (simp [q2, q3, q4] at hc36; done) | exact absurd q5 hc36 | (simp [q2, q3, q4] at hc29; done) | exact absurd q5 hc29)
   refine sr fun _ hK24 => la F rfl (x_buildS (cells := #[.int .i64 0, .string (strOfNums []), .string (strOfNums []), .string (strOfNums []), .int .i64 0, .int .u64 0, .int .u64 0, .slice none 0 0]) (places := #[(0, 1), (1, 1), (2, 1), (3, 5)]) Tryz.underlying66 ty66 (by kernel_rfl) Array.map_empty rfl) fun a F => ?_
   refine lp rfl ?_
   refine w_storeA 2 H ty66 rfl (F.t 2 rfl) (F.t 103 rfl) rfl (by simp [Value.cells, Value.oneCell']) rfl ?_
   clear H; intro w H
   refine la F rfl (x_assign rfl) fun a F => wn (hK24 _ _ ?_)
   refine wp_ret ?_
   try simp only [Exit.then, Exit.inBlock]
   exact fin_ret F (resct F rfl rfl rfl (H.at 2 rfl) ty66 rfl) ⟨⟨0, [], [], ⟨[], 0, 0, 0, []⟩⟩, none, 0, 12, rfl, H.mods, RowOut.nil _ _ _ _, DecC.no hz⟩
  have hk102_7 := hc102; try simp only [bL] at hc102
  refine wp_skip (hK18 _ _ ?_)
  refine wp_region_lit ?_
  obtain ⟨fA6, fc6, hfr6, hf6_0, hf6_1, hfw6⟩ := Rd.fld ((H.rd 19 rfl)) (gf_some (xs := dl) (i := 1) (by omega) (by omega))
  have H := H.subrd 19 rfl 6001 hfr6 (fun _ h => h)
  have H := H.subcels 19 rfl 6499 hfw6 (Rd.inok ((H.rd 19 rfl)) (by omega) _)
  have H := H.subcel 19 rfl 6500 hf6_0 (Rd.inok ((H.rd 19 rfl)) (by omega) _)
  have H := H.subcel 19 rfl 6501 hf6_1 (Rd.inok ((H.rd 19 rfl)) (by omega) _)
  refine la F rfl (x_move (F.t 4 rfl)) fun a F => la F rfl (x_iaddr_A Tryz.underlying60 ty57 ((H.rd 19 rfl)) (F.t 104 rfl) rfl (by omega) (by omega) _) fun a F => la F rfl (x_faddrA ((H.rd 19 rfl)) (by omega) _ Tryz.underlying57 rfl ty27 (by decide) (F.t 105 rfl) rfl) fun a F => la F rfl (x_load1 ty27 (F.t 106 rfl) (H.holds 6501 _ rfl)) fun a F => la F rfl (x_b2s Tryz.underlying27 Tryz.underlying5 Tryz.underlying9 ((H.rd 6001 rfl)) (F.t 107 rfl)) fun a F => la F rfl (x_move (F.t 7 rfl)) fun a F => la F rfl (x_conv Tryz.underlying3 ⟨_, Tryz.underlying59⟩ (F.t 109 rfl) (w64 (by have := numV_range (gb2 hbf); omega) (by omega))) fun a F => la F rfl (x_move (F.t 9 rfl)) fun a F => ?_
  refine la F rfl (x_move (F.t 11 rfl)) fun a F => la F rfl (x_move (F.t 13 rfl)) fun a F => la F rfl (x_buildS (cells := #[.string (strOfNums ((gf dl 1).2)), .int .i64 (numV (gf dl 2).2), .int .u64 (numV (gf dl 3).2), .int .u64 (numV (gf dl 4).2), .slice Ar82 ((adecR (gf dl 5).2).getD []).length cr82]) (places := #[(0, 1), (1, 1), (2, 1), (3, 1), (4, 1)]) Tryz.underlying64 ty64 (by kernel_rfl) (by simp only [bM, F.t 108 rfl, F.t 110 rfl, F.t 111 rfl, F.t 112 rfl, F.t 113 rfl] <;> rfl) rfl) fun a F => la F rfl (x_faddr Tryz.underlying66 rfl ty64 (by decide) (F.t 6 rfl) rfl) fun a F => ?_
  refine lp rfl ?_
  refine w_store 6 H ty64 rfl (F.t 115 rfl) (F.t 114 rfl) rfl (by simp [Value.cells, Value.oneCell']) (by first | decide | exact Nat.le_of_ble_eq_true rfl) ?_
  clear H; intro w H
  refine wn (hK9 _ _ (sr fun _ hK25 => ?_))
  have H : Hp (fun _ => False) w0 _ [(901, .rd_ (.int .u8) A bs c (fun k => k < w0.heap.size)), (2, .blk b2 (.cells #[.int .i64 0, .string (strOfNums []), .string (strOfNums []), .string (strOfNums []), .int .i64 0, .int .u64 0, .int .u64 0, .slice none 0 0] 66 (0, 0))), (19, .rd_ FE Ar19 dl cr19 (fun kb => okr19 kb ∨ (Value.slice Ar19 dl.length cr19).ownBlock = some kb)), (1001, .rd_ (.int .u8) (fA1) (gf dl 0).2 fc1 (fun kb => okr19 kb ∨ (Value.slice Ar19 dl.length cr19).ownBlock = some kb)), (1499, .cels (adr Ar19 (Int.toNat 0 * 2)) #[.int .i64 (gf dl 0).1, .slice fA1 (gf dl 0).2.length fc1]), (1500, .cel (adr Ar19 (Int.toNat 0 * 2)) (.int .i64 (gf dl 0).1)), (1501, .cel (adr Ar19 (Int.toNat 0 * 2 + 1)) (.slice fA1 (gf dl 0).2.length fc1)), (6, .blk b6 (.cells #[.int .i64 (gi (gf dl 0).2 0), .string (strOfNums []), .string (strOfNums []), .string (strOfNums ((gf dl 1).2)), .int .i64 (numV (gf dl 2).2), .int .u64 (numV (gf dl 3).2), .int .u64 (numV (gf dl 4).2), .slice Ar82 ((adecR (gf dl 5).2).getD []).length cr82] 66 (0, 0))), (2001, .rd_ (.int .u8) (fA2) (gf dl 2).2 fc2 (fun kb => okr19 kb ∨ (Value.slice Ar19 dl.length cr19).ownBlock = some kb)), (2499, .cels (adr Ar19 (Int.toNat 2 * 2)) #[.int .i64 (gf dl 2).1, .slice fA2 (gf dl 2).2.length fc2]), (2500, .cel (adr Ar19 (Int.toNat 2 * 2)) (.int .i64 (gf dl 2).1)), (2501, .cel (adr Ar19 (Int.toNat 2 * 2 + 1)) (.slice fA2 (gf dl 2).2.length fc2)), (3001, .rd_ (.int .u8) (fA3) (gf dl 3).2 fc3 (fun kb => okr19 kb ∨ (Value.slice Ar19 dl.length cr19).ownBlock = some kb)), (3499, .cels (adr Ar19 (Int.toNat 3 * 2)) #[.int .i64 (gf dl 3).1, .slice fA3 (gf dl 3).2.length fc3]), (3500, .cel (adr Ar19 (Int.toNat 3 * 2)) (.int .i64 (gf dl 3).1)), (3501, .cel (adr Ar19 (Int.toNat 3 * 2 + 1)) (.slice fA3 (gf dl 3).2.length fc3)), (4001, .rd_ (.int .u8) (fA4) (gf dl 4).2 fc4 (fun kb => okr19 kb ∨ (Value.slice Ar19 dl.length cr19).ownBlock = some kb)), (4499, .cels (adr Ar19 (Int.toNat 4 * 2)) #[.int .i64 (gf dl 4).1, .slice fA4 (gf dl 4).2.length fc4]), (4500, .cel (adr Ar19 (Int.toNat 4 * 2)) (.int .i64 (gf dl 4).1)), (4501, .cel (adr Ar19 (Int.toNat 4 * 2 + 1)) (.slice fA4 (gf dl 4).2.length fc4)), (5001, .rd_ (.int .u8) (fA5) (gf dl 5).2 fc5 (fun kb => okr19 kb ∨ (Value.slice Ar19 dl.length cr19).ownBlock = some kb)), (5499, .cels (adr Ar19 (Int.toNat 5 * 2)) #[.int .i64 (gf dl 5).1, .slice fA5 (gf dl 5).2.length fc5]), (5500, .cel (adr Ar19 (Int.toNat 5 * 2)) (.int .i64 (gf dl 5).1)), (5501, .cel (adr Ar19 (Int.toNat 5 * 2 + 1)) (.slice fA5 (gf dl 5).2.length fc5)), (82, .row StE 91 (.slice Ar82 ((adecR (gf dl 5).2).getD []).length cr82) ((adecR (gf dl 5).2).getD []) (fun _ => False)), (6001, .rd_ (.int .u8) (fA6) (gf dl 1).2 fc6 (fun kb => okr19 kb ∨ (Value.slice Ar19 dl.length cr19).ownBlock = some kb)), (6499, .cels (adr Ar19 (Int.toNat 1 * 2)) #[.int .i64 (gf dl 1).1, .slice fA6 (gf dl 1).2.length fc6]), (6500, .cel (adr Ar19 (Int.toNat 1 * 2)) (.int .i64 (gf dl 1).1)), (6501, .cel (adr Ar19 (Int.toNat 1 * 2 + 1)) (.slice fA6 (gf dl 1).2.length fc6))] := H.sub _ (sub_cons (sub_cons (sub_cons (sub_cons (sub_cons (sub_cons (sub_cons (sub_cons (sub_cons (sub_cons (sub_cons (sub_cons (sub_cons (sub_cons (sub_cons (sub_cons (sub_cons (sub_cons (sub_cons (sub_cons (sub_cons (sub_cons (sub_cons (sub_cons (sub_cons (sub_cons (sub_cons (sub_cons (sub_cons (sub_nil _) 6501 rfl) 6500 rfl) 6499 rfl) 6001 rfl) 82 rfl) 5501 rfl) 5500 rfl) 5499 rfl) 5001 rfl) 4501 rfl) 4500 rfl) 4499 rfl) 4001 rfl) 3501 rfl) 3500 rfl) 3499 rfl) 3001 rfl) 2501 rfl) 2500 rfl) 2499 rfl) 2001 rfl) 6 rfl) 1501 rfl) 1500 rfl) 1499 rfl) 1001 rfl) 19 rfl) 2 rfl) 901 rfl)
  have hcc : rcOf dl = (⟨(gi (gf dl 0).2 0), [], [], rtOf dl⟩ : ChangeD) := by unfold rcOf; rw [if_pos (show  rcK dl = 3 from hc48)] <;> rfl
  refine la F rfl (x_loadn ty66 (F.t 6 rfl) rfl (blk_whole (H.at 6 rfl))) fun a F => ?_
  refine lp rfl ?_
  refine w_call F (x_enter Tryz.func33 (by kernel_rfl) rfl (by simp only [bM, F.t 132 rfl] <;> rfl)) (rencC_calls (c := (⟨(gi (gf dl 0).2 0), [], [], rtOf dl⟩ : ChangeD)) _ (Row.rd (ok' := fun k_ => (fun _ => False) k_ ∨ (.slice Ar82 ((adecR (gf dl 5).2).getD []).length cr82 : Value).ownBlock = some k_) (H.row 82 rfl) (fun _ hk_ _ => .inl hk_) (fun _ hk_ => .inr hk_)) (hcc ▸ rcOf_B hbf (fun h3 => by omega))) rfl rfl ?_
  rintro _ w ⟨vr133, rfl, hm_, hr_⟩; refine ⟨_, rfl, ?_⟩; clear F; intro a F; have H := Hp.rowOut H 133 hm_ hr_; obtain ⟨Ar133, cr133, rfl⟩ := (H.row 133 rfl).form
  refine la F rfl (x_move (F.t 133 rfl)) fun a F => la F rfl (x_extract (F.t 131 rfl) rfl) fun a F => la F rfl (x_extract (F.t 131 rfl) rfl) fun a F => la F rfl (x_assign (F.t 134 rfl)) fun a F => la F rfl (x_assign (F.t 135 rfl)) fun a F => wn (hK25 _ _ ?_)
  refine wp_seq_k fun _ hK26 => ?_
  refine sr fun _ hK27 => ?_
  have hBy := encC_byte (hcc ▸ rcOf_B hbf (fun h3 => by omega))
  refine la F rfl (x_move (F.t 16 rfl)) fun a F => la F rfl (x_neq (F.t 136 rfl) rfl) fun a F => la F rfl (x_move (F.t 137 rfl)) fun a F => ?_
  refine split_bool F 138 rfl (fun hb138 => ?_) (fun hb138 => ?_)
  ·have hc138 := hb138; try simp only [bL] at hc138
   have hz : NoC bs := noC_rend hdl (fun h => by rw [hcc] at h; exact hc138 h.1)
   refine los F hb138 rfl fun a F => los F hb138 rfl fun a F => los F hb138 rfl fun a F => los F hb138 rfl fun a F => los F hb138 rfl fun a F => la F rfl (x_pickT (F.t 138 rfl) hb138 rfl) fun a F => wn (hK27 _ _ ?_)
   refine wp_cond_true (F.t 144 rfl) ?_
   refine sr fun _ hK28 => la F rfl (x_buildS (cells := #[.int .i64 0, .string (strOfNums []), .string (strOfNums []), .string (strOfNums []), .int .i64 0, .int .u64 0, .int .u64 0, .slice none 0 0]) (places := #[(0, 1), (1, 1), (2, 1), (3, 5)]) Tryz.underlying66 ty66 (by kernel_rfl) Array.map_empty rfl) fun a F => ?_
   refine lp rfl ?_
   refine w_storeA 2 H ty66 rfl (F.t 2 rfl) (F.t 145 rfl) rfl (by simp [Value.cells, Value.oneCell']) rfl ?_
   clear H; intro w H
   refine la F rfl (x_assign rfl) fun a F => wn (hK28 _ _ ?_)
   refine wp_ret ?_
   try simp only [Exit.then, Exit.inBlock]
   exact fin_ret F (resct F rfl rfl rfl (H.at 2 rfl) ty66 rfl) ⟨⟨0, [], [], ⟨[], 0, 0, 0, []⟩⟩, none, 0, 12, rfl, H.mods, RowOut.nil _ _ _ _, DecC.no hz⟩
  have hc138 := hb138; try simp only [bL] at hc138
  refine lgs F hb138 rfl (x_move (F.t 15 rfl)) fun a F => lgs F hb138 rfl (x_b2s Tryz.underlying27 Tryz.underlying5 Tryz.underlying9 (Row.rd (ok' := fun k_ => (fun _ => False) k_ ∨ (.slice Ar133 (encC (⟨(gi (gf dl 0).2 0), [], [], rtOf dl⟩ : ChangeD)).length cr133 : Value).ownBlock = some k_) (H.row 133 rfl) (fun _ hk_ _ => .inl hk_) (fun _ hk_ => .inr hk_)) (F.t 139 rfl)) fun a F => lgs F hb138 rfl (x_move (F.t 0 rfl)) fun a F => lgs F hb138 rfl (x_b2s Tryz.underlying27 Tryz.underlying5 Tryz.underlying9 ((H.rd 901 rfl)) (F.t 141 rfl)) fun a F => lgs F hb138 rfl (x_nen (xs := (encC (⟨(gi (gf dl 0).2 0), [], [], rtOf dl⟩ : ChangeD))) (ys := bs) (F.t 140 rfl) (F.t 142 rfl) hBy hby) fun a F => la F rfl (x_pickF (F.t 138 rfl) hb138 (F.t 143 rfl)) fun a F => wn (hK27 _ _ ?_)
  refine wp_cond_split (F.t 144 rfl) (fun hc144 => ?_) (fun hc144 => ?_)
  ·have hk144_8 := hc144; try simp only [bL] at hc144
   have hz : NoC bs := noC_rend hdl (fun h => by rw [hcc] at h; exact hc144 h.2)
   refine sr fun _ hK29 => la F rfl (x_buildS (cells := #[.int .i64 0, .string (strOfNums []), .string (strOfNums []), .string (strOfNums []), .int .i64 0, .int .u64 0, .int .u64 0, .slice none 0 0]) (places := #[(0, 1), (1, 1), (2, 1), (3, 5)]) Tryz.underlying66 ty66 (by kernel_rfl) Array.map_empty rfl) fun a F => ?_
   refine lp rfl ?_
   refine w_storeA 2 H ty66 rfl (F.t 2 rfl) (F.t 145 rfl) rfl (by simp [Value.cells, Value.oneCell']) rfl ?_
   clear H; intro w H
   refine la F rfl (x_assign rfl) fun a F => wn (hK29 _ _ ?_)
   refine wp_ret ?_
   try simp only [Exit.then, Exit.inBlock]
   exact fin_ret F (resct F rfl rfl rfl (H.at 2 rfl) ty66 rfl) ⟨⟨0, [], [], ⟨[], 0, 0, 0, []⟩⟩, none, 0, 12, rfl, H.mods, RowOut.nil _ _ _ _, DecC.no hz⟩
  have hk144_9 := hc144; try simp only [bL] at hc144
  refine wp_skip (hK26 _ _ (sr fun _ hK30 => la F rfl (x_loadn ty66 (F.t 6 rfl) rfl (blk_whole (H.at 6 rfl))) fun a F => ?_))
  refine lp rfl ?_
  refine w_storeA 2 H ty66 rfl (F.t 2 rfl) (F.t 146 rfl) rfl (by simp [Value.cells, Value.oneCell']) rfl ?_
  clear H; intro w H
  refine la F rfl (x_assign rfl) fun a F => wn (hK30 _ _ ?_)
  refine wp_ret ?_
  try simp only [Exit.then, Exit.inBlock]
  have hE : encCE (⟨(gi (gf dl 0).2 0), [], [], rtOf dl⟩ : ChangeD) = 0 := by first | exact hc144 | exact hc138 | exact hc102 | exact hc99 | exact hc95 | exact hc91 | exact hc87 | exact hc51 | exact hc48 | exact hc36 | exact hc29 | exact hc24
  have hX : encC (⟨(gi (gf dl 0).2 0), [], [], rtOf dl⟩ : ChangeD) = bs := by first | exact hc144 | exact hc138 | exact hc102 | exact hc99 | exact hc95 | exact hc91 | exact hc87 | exact hc51 | exact hc48 | exact hc36 | exact hc29 | exact hc24
  exact fin_ret F (resct F rfl rfl rfl (H.at 2 rfl) ty66 rfl) ⟨(⟨(gi (gf dl 0).2 0), [], [], rtOf dl⟩ : ChangeD), Ar82, cr82, 0, rfl, H.mods, Hp.out H 82 rfl, ⟨(hcc ▸ rcOf_B hbf (fun h3 => by omega)), .inl ⟨rfl, encCE0 hE, hX⟩⟩⟩
 have hk48_10 := hc48; try simp only [bL] at hc48
 refine sr fun _ hK31 => ?_
 obtain ⟨fA6, fc6, hfr6, hf6_0, hf6_1, hfw6⟩ := Rd.fld ((H.rd 19 rfl)) (gf_some (xs := dl) (i := 1) (by omega) (by omega))
 have H := H.subrd 19 rfl 6001 hfr6 (fun _ h => h)
 have H := H.subcels 19 rfl 6499 hfw6 (Rd.inok ((H.rd 19 rfl)) (by omega) _)
 have H := H.subcel 19 rfl 6500 hf6_0 (Rd.inok ((H.rd 19 rfl)) (by omega) _)
 have H := H.subcel 19 rfl 6501 hf6_1 (Rd.inok ((H.rd 19 rfl)) (by omega) _)
 refine la F rfl (x_move (F.t 4 rfl)) fun a F => la F rfl (x_iaddr_A Tryz.underlying60 ty57 ((H.rd 19 rfl)) (F.t 116 rfl) rfl (by omega) (by omega) _) fun a F => la F rfl (x_faddrA ((H.rd 19 rfl)) (by omega) _ Tryz.underlying57 rfl ty27 (by decide) (F.t 117 rfl) rfl) fun a F => la F rfl (x_load1 ty27 (F.t 118 rfl) (H.holds 6501 _ rfl)) fun a F => la F rfl (x_b2s Tryz.underlying27 Tryz.underlying5 Tryz.underlying9 ((H.rd 6001 rfl)) (F.t 119 rfl)) fun a F => la F rfl (x_faddr Tryz.underlying66 rfl ty9 (by decide) (F.t 6 rfl) rfl) fun a F => ?_
 refine lp rfl ?_
 refine w_store 6 H ty9 rfl (F.t 121 rfl) (F.t 120 rfl) rfl (one1 rfl rfl) (by first | decide | exact Nat.le_of_ble_eq_true rfl) ?_
 clear H; intro w H
 refine wn (hK31 _ _ (sr fun _ hK32 => la F rfl (x_move (F.t 4 rfl)) fun a F => la F rfl (x_len_slice Tryz.underlying60 (F.t 122 rfl)) fun a F => la F rfl (x_gtr (F.t 123 rfl) rfl) fun a F => wn (hK32 _ _ ?_)))
 refine wp_cond_split (F.t 124 rfl) (fun hc124 => ?_) (fun hc124 => ?_)
 ·have hk124_11 := hc124; try simp only [bL] at hc124
  refine wp_region_lit ?_
  obtain ⟨fA7, fc7, hfr7, hf7_0, hf7_1, hfw7⟩ := Rd.fld ((H.rd 19 rfl)) (gf_some (xs := dl) (i := 2) (by omega) (by omega))
  have H := H.subrd 19 rfl 7001 hfr7 (fun _ h => h)
  have H := H.subcels 19 rfl 7499 hfw7 (Rd.inok ((H.rd 19 rfl)) (by omega) _)
  have H := H.subcel 19 rfl 7500 hf7_0 (Rd.inok ((H.rd 19 rfl)) (by omega) _)
  have H := H.subcel 19 rfl 7501 hf7_1 (Rd.inok ((H.rd 19 rfl)) (by omega) _)
  refine la F rfl (x_move (F.t 4 rfl)) fun a F => la F rfl (x_iaddr_A Tryz.underlying60 ty57 ((H.rd 19 rfl)) (F.t 125 rfl) rfl (by omega) (by omega) _) fun a F => la F rfl (x_faddrA ((H.rd 19 rfl)) (by omega) _ Tryz.underlying57 rfl ty27 (by decide) (F.t 126 rfl) rfl) fun a F => la F rfl (x_load1 ty27 (F.t 127 rfl) (H.holds 7501 _ rfl)) fun a F => la F rfl (x_b2s Tryz.underlying27 Tryz.underlying5 Tryz.underlying9 ((H.rd 7001 rfl)) (F.t 128 rfl)) fun a F => la F rfl (x_faddr Tryz.underlying66 rfl ty9 (by decide) (F.t 6 rfl) rfl) fun a F => ?_
  refine lp rfl ?_
  refine w_store 6 H ty9 rfl (F.t 130 rfl) (F.t 129 rfl) rfl (one1 rfl rfl) (by first | decide | exact Nat.le_of_ble_eq_true rfl) ?_
  clear H; intro w H
  refine wn (hK9 _ _ (sr fun _ hK33 => ?_))
  have H : Hp (fun _ => False) w0 _ [(901, .rd_ (.int .u8) A bs c (fun k => k < w0.heap.size)), (2, .blk b2 (.cells #[.int .i64 0, .string (strOfNums []), .string (strOfNums []), .string (strOfNums []), .int .i64 0, .int .u64 0, .int .u64 0, .slice none 0 0] 66 (0, 0))), (19, .rd_ FE Ar19 dl cr19 (fun kb => okr19 kb ∨ (Value.slice Ar19 dl.length cr19).ownBlock = some kb)), (1001, .rd_ (.int .u8) (fA1) (gf dl 0).2 fc1 (fun kb => okr19 kb ∨ (Value.slice Ar19 dl.length cr19).ownBlock = some kb)), (1499, .cels (adr Ar19 (Int.toNat 0 * 2)) #[.int .i64 (gf dl 0).1, .slice fA1 (gf dl 0).2.length fc1]), (1500, .cel (adr Ar19 (Int.toNat 0 * 2)) (.int .i64 (gf dl 0).1)), (1501, .cel (adr Ar19 (Int.toNat 0 * 2 + 1)) (.slice fA1 (gf dl 0).2.length fc1)), (6, .blk b6 (.cells #[.int .i64 (gi (gf dl 0).2 0), .string (strOfNums ((gf dl 1).2)), .string (strOfNums ((gf dl 2).2)), .string (strOfNums []), .int .i64 0, .int .u64 0, .int .u64 0, .slice none 0 0] 66 (0, 0))), (6001, .rd_ (.int .u8) (fA6) (gf dl 1).2 fc6 (fun kb => okr19 kb ∨ (Value.slice Ar19 dl.length cr19).ownBlock = some kb)), (6499, .cels (adr Ar19 (Int.toNat 1 * 2)) #[.int .i64 (gf dl 1).1, .slice fA6 (gf dl 1).2.length fc6]), (6500, .cel (adr Ar19 (Int.toNat 1 * 2)) (.int .i64 (gf dl 1).1)), (6501, .cel (adr Ar19 (Int.toNat 1 * 2 + 1)) (.slice fA6 (gf dl 1).2.length fc6)), (7001, .rd_ (.int .u8) (fA7) (gf dl 2).2 fc7 (fun kb => okr19 kb ∨ (Value.slice Ar19 dl.length cr19).ownBlock = some kb)), (7499, .cels (adr Ar19 (Int.toNat 2 * 2)) #[.int .i64 (gf dl 2).1, .slice fA7 (gf dl 2).2.length fc7]), (7500, .cel (adr Ar19 (Int.toNat 2 * 2)) (.int .i64 (gf dl 2).1)), (7501, .cel (adr Ar19 (Int.toNat 2 * 2 + 1)) (.slice fA7 (gf dl 2).2.length fc7))] := H.sub _ (sub_cons (sub_cons (sub_cons (sub_cons (sub_cons (sub_cons (sub_cons (sub_cons (sub_cons (sub_cons (sub_cons (sub_cons (sub_cons (sub_cons (sub_cons (sub_cons (sub_nil _) 7501 rfl) 7500 rfl) 7499 rfl) 7001 rfl) 6501 rfl) 6500 rfl) 6499 rfl) 6001 rfl) 6 rfl) 1501 rfl) 1500 rfl) 1499 rfl) 1001 rfl) 19 rfl) 2 rfl) 901 rfl)
  have hcc : rcOf dl = (⟨(gi (gf dl 0).2 0), (gf dl 1).2, (gf dl 2).2, zTT⟩ : ChangeD) := by unfold rcOf; rw [if_neg (show ¬ rcK dl = 3 from hc48)]; unfold rcV; rw [if_pos hc124] <;> rfl
  refine la F rfl (x_loadn ty66 (F.t 6 rfl) rfl (blk_whole (H.at 6 rfl))) fun a F => ?_
  refine lp rfl ?_
  refine w_call F (x_enter Tryz.func33 (by kernel_rfl) rfl (by simp only [bM, F.t 132 rfl] <;> rfl)) (rencC_calls (c := (⟨(gi (gf dl 0).2 0), (gf dl 1).2, (gf dl 2).2, zTT⟩ : ChangeD)) _ (Rd.nil StE _ (fun _ => False)) (hcc ▸ rcOf_B hbf (fun h3 => absurd h3 hc48))) rfl rfl ?_
  rintro _ w ⟨vr133, rfl, hm_, hr_⟩; refine ⟨_, rfl, ?_⟩; clear F; intro a F; have H := Hp.rowOut H 133 hm_ hr_; obtain ⟨Ar133, cr133, rfl⟩ := (H.row 133 rfl).form
  refine la F rfl (x_move (F.t 133 rfl)) fun a F => la F rfl (x_extract (F.t 131 rfl) rfl) fun a F => la F rfl (x_extract (F.t 131 rfl) rfl) fun a F => la F rfl (x_assign (F.t 134 rfl)) fun a F => la F rfl (x_assign (F.t 135 rfl)) fun a F => wn (hK33 _ _ ?_)
  refine wp_seq_k fun _ hK34 => ?_
  refine sr fun _ hK35 => ?_
  have hBy := encC_byte (hcc ▸ rcOf_B hbf (fun h3 => absurd h3 hc48))
  refine la F rfl (x_move (F.t 16 rfl)) fun a F => la F rfl (x_neq (F.t 136 rfl) rfl) fun a F => la F rfl (x_move (F.t 137 rfl)) fun a F => ?_
  refine split_bool F 138 rfl (fun hb138 => ?_) (fun hb138 => ?_)
  ·have hc138 := hb138; try simp only [bL] at hc138
   have hz : NoC bs := noC_rend hdl (fun h => by rw [hcc] at h; exact hc138 h.1)
   refine los F hb138 rfl fun a F => los F hb138 rfl fun a F => los F hb138 rfl fun a F => los F hb138 rfl fun a F => los F hb138 rfl fun a F => la F rfl (x_pickT (F.t 138 rfl) hb138 rfl) fun a F => wn (hK35 _ _ ?_)
   refine wp_cond_true (F.t 144 rfl) ?_
   refine sr fun _ hK36 => la F rfl (x_buildS (cells := #[.int .i64 0, .string (strOfNums []), .string (strOfNums []), .string (strOfNums []), .int .i64 0, .int .u64 0, .int .u64 0, .slice none 0 0]) (places := #[(0, 1), (1, 1), (2, 1), (3, 5)]) Tryz.underlying66 ty66 (by kernel_rfl) Array.map_empty rfl) fun a F => ?_
   refine lp rfl ?_
   refine w_storeA 2 H ty66 rfl (F.t 2 rfl) (F.t 145 rfl) rfl (by simp [Value.cells, Value.oneCell']) rfl ?_
   clear H; intro w H
   refine la F rfl (x_assign rfl) fun a F => wn (hK36 _ _ ?_)
   refine wp_ret ?_
   try simp only [Exit.then, Exit.inBlock]
   exact fin_ret F (resct F rfl rfl rfl (H.at 2 rfl) ty66 rfl) ⟨⟨0, [], [], ⟨[], 0, 0, 0, []⟩⟩, none, 0, 12, rfl, H.mods, RowOut.nil _ _ _ _, DecC.no hz⟩
  have hc138 := hb138; try simp only [bL] at hc138
  refine lgs F hb138 rfl (x_move (F.t 15 rfl)) fun a F => lgs F hb138 rfl (x_b2s Tryz.underlying27 Tryz.underlying5 Tryz.underlying9 (Row.rd (ok' := fun k_ => (fun _ => False) k_ ∨ (.slice Ar133 (encC (⟨(gi (gf dl 0).2 0), (gf dl 1).2, (gf dl 2).2, zTT⟩ : ChangeD)).length cr133 : Value).ownBlock = some k_) (H.row 133 rfl) (fun _ hk_ _ => .inl hk_) (fun _ hk_ => .inr hk_)) (F.t 139 rfl)) fun a F => lgs F hb138 rfl (x_move (F.t 0 rfl)) fun a F => lgs F hb138 rfl (x_b2s Tryz.underlying27 Tryz.underlying5 Tryz.underlying9 ((H.rd 901 rfl)) (F.t 141 rfl)) fun a F => lgs F hb138 rfl (x_nen (xs := (encC (⟨(gi (gf dl 0).2 0), (gf dl 1).2, (gf dl 2).2, zTT⟩ : ChangeD))) (ys := bs) (F.t 140 rfl) (F.t 142 rfl) hBy hby) fun a F => la F rfl (x_pickF (F.t 138 rfl) hb138 (F.t 143 rfl)) fun a F => wn (hK35 _ _ ?_)
  refine wp_cond_split (F.t 144 rfl) (fun hc144 => ?_) (fun hc144 => ?_)
  ·have hk144_12 := hc144; try simp only [bL] at hc144
   have hz : NoC bs := noC_rend hdl (fun h => by rw [hcc] at h; exact hc144 h.2)
   refine sr fun _ hK37 => la F rfl (x_buildS (cells := #[.int .i64 0, .string (strOfNums []), .string (strOfNums []), .string (strOfNums []), .int .i64 0, .int .u64 0, .int .u64 0, .slice none 0 0]) (places := #[(0, 1), (1, 1), (2, 1), (3, 5)]) Tryz.underlying66 ty66 (by kernel_rfl) Array.map_empty rfl) fun a F => ?_
   refine lp rfl ?_
   refine w_storeA 2 H ty66 rfl (F.t 2 rfl) (F.t 145 rfl) rfl (by simp [Value.cells, Value.oneCell']) rfl ?_
   clear H; intro w H
   refine la F rfl (x_assign rfl) fun a F => wn (hK37 _ _ ?_)
   refine wp_ret ?_
   try simp only [Exit.then, Exit.inBlock]
   exact fin_ret F (resct F rfl rfl rfl (H.at 2 rfl) ty66 rfl) ⟨⟨0, [], [], ⟨[], 0, 0, 0, []⟩⟩, none, 0, 12, rfl, H.mods, RowOut.nil _ _ _ _, DecC.no hz⟩
  have hk144_13 := hc144; try simp only [bL] at hc144
  refine wp_skip (hK34 _ _ (sr fun _ hK38 => la F rfl (x_loadn ty66 (F.t 6 rfl) rfl (blk_whole (H.at 6 rfl))) fun a F => ?_))
  refine lp rfl ?_
  refine w_storeA 2 H ty66 rfl (F.t 2 rfl) (F.t 146 rfl) rfl (by simp [Value.cells, Value.oneCell']) rfl ?_
  clear H; intro w H
  refine la F rfl (x_assign rfl) fun a F => wn (hK38 _ _ ?_)
  refine wp_ret ?_
  try simp only [Exit.then, Exit.inBlock]
  have hE : encCE (⟨(gi (gf dl 0).2 0), (gf dl 1).2, (gf dl 2).2, zTT⟩ : ChangeD) = 0 := by first | exact hc144 | exact hc138 | exact hc124 | exact hc48 | exact hc36 | exact hc29 | exact hc24
  have hX : encC (⟨(gi (gf dl 0).2 0), (gf dl 1).2, (gf dl 2).2, zTT⟩ : ChangeD) = bs := by first | exact hc144 | exact hc138 | exact hc124 | exact hc48 | exact hc36 | exact hc29 | exact hc24
  exact fin_ret F (resct F rfl rfl rfl (H.at 2 rfl) ty66 rfl) ⟨(⟨(gi (gf dl 0).2 0), (gf dl 1).2, (gf dl 2).2, zTT⟩ : ChangeD), none, 0, 0, rfl, H.mods, RowOut.nil _ _ _ _, ⟨(hcc ▸ rcOf_B hbf (fun h3 => absurd h3 hc48)), .inl ⟨rfl, encCE0 hE, hX⟩⟩⟩
 have hk124_14 := hc124; try simp only [bL] at hc124
 refine wp_skip (hK9 _ _ (sr fun _ hK39 => ?_))
 have H : Hp (fun _ => False) w0 _ [(901, .rd_ (.int .u8) A bs c (fun k => k < w0.heap.size)), (2, .blk b2 (.cells #[.int .i64 0, .string (strOfNums []), .string (strOfNums []), .string (strOfNums []), .int .i64 0, .int .u64 0, .int .u64 0, .slice none 0 0] 66 (0, 0))), (19, .rd_ FE Ar19 dl cr19 (fun kb => okr19 kb ∨ (Value.slice Ar19 dl.length cr19).ownBlock = some kb)), (1001, .rd_ (.int .u8) (fA1) (gf dl 0).2 fc1 (fun kb => okr19 kb ∨ (Value.slice Ar19 dl.length cr19).ownBlock = some kb)), (1499, .cels (adr Ar19 (Int.toNat 0 * 2)) #[.int .i64 (gf dl 0).1, .slice fA1 (gf dl 0).2.length fc1]), (1500, .cel (adr Ar19 (Int.toNat 0 * 2)) (.int .i64 (gf dl 0).1)), (1501, .cel (adr Ar19 (Int.toNat 0 * 2 + 1)) (.slice fA1 (gf dl 0).2.length fc1)), (6, .blk b6 (.cells #[.int .i64 (gi (gf dl 0).2 0), .string (strOfNums ((gf dl 1).2)), .string (strOfNums []), .string (strOfNums []), .int .i64 0, .int .u64 0, .int .u64 0, .slice none 0 0] 66 (0, 0))), (6001, .rd_ (.int .u8) (fA6) (gf dl 1).2 fc6 (fun kb => okr19 kb ∨ (Value.slice Ar19 dl.length cr19).ownBlock = some kb)), (6499, .cels (adr Ar19 (Int.toNat 1 * 2)) #[.int .i64 (gf dl 1).1, .slice fA6 (gf dl 1).2.length fc6]), (6500, .cel (adr Ar19 (Int.toNat 1 * 2)) (.int .i64 (gf dl 1).1)), (6501, .cel (adr Ar19 (Int.toNat 1 * 2 + 1)) (.slice fA6 (gf dl 1).2.length fc6))] := H.sub _ (sub_cons (sub_cons (sub_cons (sub_cons (sub_cons (sub_cons (sub_cons (sub_cons (sub_cons (sub_cons (sub_cons (sub_cons (sub_nil _) 6501 rfl) 6500 rfl) 6499 rfl) 6001 rfl) 6 rfl) 1501 rfl) 1500 rfl) 1499 rfl) 1001 rfl) 19 rfl) 2 rfl) 901 rfl)
 have hcc : rcOf dl = (⟨(gi (gf dl 0).2 0), (gf dl 1).2, [], zTT⟩ : ChangeD) := by unfold rcOf; rw [if_neg (show ¬ rcK dl = 3 from hc48)]; unfold rcV; rw [if_neg hc124] <;> rfl
 refine la F rfl (x_loadn ty66 (F.t 6 rfl) rfl (blk_whole (H.at 6 rfl))) fun a F => ?_
 refine lp rfl ?_
 refine w_call F (x_enter Tryz.func33 (by kernel_rfl) rfl (by simp only [bM, F.t 132 rfl] <;> rfl)) (rencC_calls (c := (⟨(gi (gf dl 0).2 0), (gf dl 1).2, [], zTT⟩ : ChangeD)) _ (Rd.nil StE _ (fun _ => False)) (hcc ▸ rcOf_B hbf (fun h3 => absurd h3 hc48))) rfl rfl ?_
 rintro _ w ⟨vr133, rfl, hm_, hr_⟩; refine ⟨_, rfl, ?_⟩; clear F; intro a F; have H := Hp.rowOut H 133 hm_ hr_; obtain ⟨Ar133, cr133, rfl⟩ := (H.row 133 rfl).form
 refine la F rfl (x_move (F.t 133 rfl)) fun a F => la F rfl (x_extract (F.t 131 rfl) rfl) fun a F => la F rfl (x_extract (F.t 131 rfl) rfl) fun a F => la F rfl (x_assign (F.t 134 rfl)) fun a F => la F rfl (x_assign (F.t 135 rfl)) fun a F => wn (hK39 _ _ ?_)
 refine wp_seq_k fun _ hK40 => ?_
 refine sr fun _ hK41 => ?_
 have hBy := encC_byte (hcc ▸ rcOf_B hbf (fun h3 => absurd h3 hc48))
 refine la F rfl (x_move (F.t 16 rfl)) fun a F => la F rfl (x_neq (F.t 136 rfl) rfl) fun a F => la F rfl (x_move (F.t 137 rfl)) fun a F => ?_
 refine split_bool F 138 rfl (fun hb138 => ?_) (fun hb138 => ?_)
 ·have hc138 := hb138; try simp only [bL] at hc138
  have hz : NoC bs := noC_rend hdl (fun h => by rw [hcc] at h; exact hc138 h.1)
  refine los F hb138 rfl fun a F => los F hb138 rfl fun a F => los F hb138 rfl fun a F => los F hb138 rfl fun a F => los F hb138 rfl fun a F => la F rfl (x_pickT (F.t 138 rfl) hb138 rfl) fun a F => wn (hK41 _ _ ?_)
  refine wp_cond_true (F.t 144 rfl) ?_
  refine sr fun _ hK42 => la F rfl (x_buildS (cells := #[.int .i64 0, .string (strOfNums []), .string (strOfNums []), .string (strOfNums []), .int .i64 0, .int .u64 0, .int .u64 0, .slice none 0 0]) (places := #[(0, 1), (1, 1), (2, 1), (3, 5)]) Tryz.underlying66 ty66 (by kernel_rfl) Array.map_empty rfl) fun a F => ?_
  refine lp rfl ?_
  refine w_storeA 2 H ty66 rfl (F.t 2 rfl) (F.t 145 rfl) rfl (by simp [Value.cells, Value.oneCell']) rfl ?_
  clear H; intro w H
  refine la F rfl (x_assign rfl) fun a F => wn (hK42 _ _ ?_)
  refine wp_ret ?_
  try simp only [Exit.then, Exit.inBlock]
  exact fin_ret F (resct F rfl rfl rfl (H.at 2 rfl) ty66 rfl) ⟨⟨0, [], [], ⟨[], 0, 0, 0, []⟩⟩, none, 0, 12, rfl, H.mods, RowOut.nil _ _ _ _, DecC.no hz⟩
 have hc138 := hb138; try simp only [bL] at hc138
 refine lgs F hb138 rfl (x_move (F.t 15 rfl)) fun a F => lgs F hb138 rfl (x_b2s Tryz.underlying27 Tryz.underlying5 Tryz.underlying9 (Row.rd (ok' := fun k_ => (fun _ => False) k_ ∨ (.slice Ar133 (encC (⟨(gi (gf dl 0).2 0), (gf dl 1).2, [], zTT⟩ : ChangeD)).length cr133 : Value).ownBlock = some k_) (H.row 133 rfl) (fun _ hk_ _ => .inl hk_) (fun _ hk_ => .inr hk_)) (F.t 139 rfl)) fun a F => lgs F hb138 rfl (x_move (F.t 0 rfl)) fun a F => lgs F hb138 rfl (x_b2s Tryz.underlying27 Tryz.underlying5 Tryz.underlying9 ((H.rd 901 rfl)) (F.t 141 rfl)) fun a F => lgs F hb138 rfl (x_nen (xs := (encC (⟨(gi (gf dl 0).2 0), (gf dl 1).2, [], zTT⟩ : ChangeD))) (ys := bs) (F.t 140 rfl) (F.t 142 rfl) hBy hby) fun a F => la F rfl (x_pickF (F.t 138 rfl) hb138 (F.t 143 rfl)) fun a F => wn (hK41 _ _ ?_)
 refine wp_cond_split (F.t 144 rfl) (fun hc144 => ?_) (fun hc144 => ?_)
 ·have hk144_15 := hc144; try simp only [bL] at hc144
  have hz : NoC bs := noC_rend hdl (fun h => by rw [hcc] at h; exact hc144 h.2)
  refine sr fun _ hK43 => la F rfl (x_buildS (cells := #[.int .i64 0, .string (strOfNums []), .string (strOfNums []), .string (strOfNums []), .int .i64 0, .int .u64 0, .int .u64 0, .slice none 0 0]) (places := #[(0, 1), (1, 1), (2, 1), (3, 5)]) Tryz.underlying66 ty66 (by kernel_rfl) Array.map_empty rfl) fun a F => ?_
  refine lp rfl ?_
  refine w_storeA 2 H ty66 rfl (F.t 2 rfl) (F.t 145 rfl) rfl (by simp [Value.cells, Value.oneCell']) rfl ?_
  clear H; intro w H
  refine la F rfl (x_assign rfl) fun a F => wn (hK43 _ _ ?_)
  refine wp_ret ?_
  try simp only [Exit.then, Exit.inBlock]
  exact fin_ret F (resct F rfl rfl rfl (H.at 2 rfl) ty66 rfl) ⟨⟨0, [], [], ⟨[], 0, 0, 0, []⟩⟩, none, 0, 12, rfl, H.mods, RowOut.nil _ _ _ _, DecC.no hz⟩
 have hk144_16 := hc144; try simp only [bL] at hc144
 refine wp_skip (hK40 _ _ (sr fun _ hK44 => la F rfl (x_loadn ty66 (F.t 6 rfl) rfl (blk_whole (H.at 6 rfl))) fun a F => ?_))
 refine lp rfl ?_
 refine w_storeA 2 H ty66 rfl (F.t 2 rfl) (F.t 146 rfl) rfl (by simp [Value.cells, Value.oneCell']) rfl ?_
 clear H; intro w H
 refine la F rfl (x_assign rfl) fun a F => wn (hK44 _ _ ?_)
 refine wp_ret ?_
 try simp only [Exit.then, Exit.inBlock]
 have hE : encCE (⟨(gi (gf dl 0).2 0), (gf dl 1).2, [], zTT⟩ : ChangeD) = 0 := by first | exact hc144 | exact hc138 | exact hc124 | exact hc48 | exact hc36 | exact hc29 | exact hc24
 have hX : encC (⟨(gi (gf dl 0).2 0), (gf dl 1).2, [], zTT⟩ : ChangeD) = bs := by first | exact hc144 | exact hc138 | exact hc124 | exact hc48 | exact hc36 | exact hc29 | exact hc24
 exact fin_ret F (resct F rfl rfl rfl (H.at 2 rfl) ty66 rfl) ⟨(⟨(gi (gf dl 0).2 0), (gf dl 1).2, [], zTT⟩ : ChangeD), none, 0, 0, rfl, H.mods, RowOut.nil _ _ _ _, ⟨(hcc ▸ rcOf_B hbf (fun h3 => absurd h3 hc48)), .inl ⟨rfl, encCE0 hE, hX⟩⟩⟩
end Go.Proofs.YtiiklnghnifmjaaGreatDoor.Act
