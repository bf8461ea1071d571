/- A request's bytes decoded by the document, walked. -/
import Derived.Test.YtiiklnghnifmjaaGreatDoorRqcAZc
import Derived.Test.YtiiklnghnifmjaaGreatDoorRqeAZc
import Derived.Test.YtiiklnghnifmjaaGreatDoorRqdDZc
set_option linter.unusedVariables false
set_option maxRecDepth 100000
set_option maxHeartbeats 1000000
set_option linter.unusedSimpArgs false
namespace Go.Proofs.YtiiklnghnifmjaaGreatDoor.Act
open Go.RowKit Go.Proofs.YtiiklnghnifmjaaGreatDoor.Sx Go.Proofs.YtiiklnghnifmjaaGreatDoor.Cod Go.Proofs.YtiiklnghnifmjaaGreatDoor.Num
theorem rread_calls (w0 : World) {ok : Nat → Prop} {A : Option Addr} {bs : List Int} {c : Nat} (hrb : Rd (.int .u8) w0 ok A bs c) (hby : Byte bs) : Calls Tryz.prog 57 #[.slice A bs.length c] w0 fun e w' => ∃ (o : OpD) (Ad : Option Addr) (cd : Nat) (b : Bool), e = .returned (.tuple #[.agg #[.int .i64 o.kind, .string (strOfNums o.key), .int .i64 o.step.1, .string (strOfNums o.step.2.1), .string (strOfNums o.step.2.2.1), .int .i64 o.step.2.2.2, .string (strOfNums o.timer.name), .int .i64 o.timer.ver, .int .u64 o.timer.tick, .int .u64 o.timer.every, .slice Ad o.timer.steps.length cd], .bool b]) ∧ Mods (fun _ => False) w0 w' ∧ RowOut StE 91 w0 w' (.slice Ad o.timer.steps.length cd) o.timer.steps ∧ ReadO bs o b := by
 refine cow Tryz.func57 rfl Tryz.ntmps57 (Nat.le_of_ble_eq_true rfl) fun a F => ?_
 have H := Hp.nil (fun _ => False) w0
 have H := H.arg 901 hrb.all (fun _ h => ⟨h, fun h => h⟩)
 have hleb := hrb.le; unfold maxLen at hleb
 refine sr fun _ hK1 => ?_
 refine lp rfl ?_
 refine w_alloc 2 F H rfl ty93 ?_
 clear F H; intro a w b2 F H
 refine la F rfl (x_assign rfl) fun a F => wn (hK1 _ _ (sr fun _ hK2 => la F rfl (x_move (F.t 0 rfl)) fun a F => ?_))
 refine lp rfl ?_
 refine w_call F (x_enter Tryz.func41 (by kernel_rfl) rfl (by simp only [bM, F.t 12 rfl] <;> rfl)) (refDec_calls _ ((H.rd 901 rfl)) hby) rfl rfl ?_
 rintro _ w ⟨vr13, rfl, hm_, okr13, hr_, hf_, ho13_⟩; refine ⟨_, rfl, ?_⟩; clear F; intro a F; have H := H.newRow 13 hm_ hr_ hf_ ho13_; obtain ⟨Ar13, cr13, rfl⟩ := (H.row 13 rfl).form
 refine la F rfl (x_move (F.t 13 rfl)) fun a F => la F rfl (x_extract (F.t 11 rfl) rfl) fun a F => la F rfl (x_extract (F.t 11 rfl) rfl) fun a F => la F rfl (x_assign (F.t 14 rfl)) fun a F => la F rfl (x_assign (F.t 15 rfl)) fun a F => ?_
 obtain ⟨dl, hdl⟩ : ∃ dl, dl = (decR bs).getD [] := ⟨_, rfl⟩
 rw [← hdl] at F H
 have hbf : ∀ f ∈ dl, Byte f.2 := by rw [hdl]; exact dl_byte hby
 have H := H.freeze 13 rfl (fun kb => okr13 kb ∨ (Value.slice Ar13 dl.length cr13).ownBlock = some kb) (fun kb => Iff.rfl)
 refine wn (hK2 _ _ ?_)
 refine wp_seq_k fun _ hK3 => ?_
 refine sr fun _ hK4 => la F rfl (x_move (F.t 5 rfl)) fun a F => la F rfl (x_neq (F.t 16 rfl) rfl) fun a F => la F rfl (x_move (F.t 17 rfl)) fun a F => ?_
 refine split_bool F 18 rfl (fun hb18 => ?_) (fun hb18 => ?_)
 ·have hc18 := hb18; try simp only [bL] at hc18
  have hz : NoO bs := noO_none (by cases hd : decR bs with | none => rfl | some l => rw [hd] at hc18; exact absurd rfl hc18)
  refine los F hb18 rfl fun a F => los F hb18 rfl fun a F => los F hb18 rfl fun a F => la F rfl (x_pickT (F.t 18 rfl) hb18 rfl) fun a F => la F rfl (x_move (F.t 22 rfl)) fun a F => lo F rfl fun a F => lo F rfl fun a F => lo F rfl fun a F => ?_
  refine lo F rfl fun a F => lo F rfl fun a F => lo F rfl fun a F => la F rfl (x_pickT (F.t 23 rfl) rfl rfl) fun a F => wn (hK4 _ _ ?_)
  refine wp_cond_true (F.t 30 rfl) ?_
  refine sr fun _ hK5 => la F rfl (x_buildS (cells := #[.int .i64 0, .string (strOfNums []), .int .i64 0, .string (strOfNums []), .string (strOfNums []), .int .i64 0, .string (strOfNums []), .int .i64 0, .int .u64 0, .int .u64 0, .slice none 0 0]) (places := #[(0, 1), (1, 1), (2, 4), (6, 5)]) Tryz.underlying93 ty93 (by kernel_rfl) Array.map_empty rfl) fun a F => ?_
  refine lp rfl ?_
  refine w_storeA 2 H ty93 rfl (F.t 2 rfl) (F.t 31 rfl) rfl (by simp [Value.cells, Value.oneCell']) rfl ?_
  clear H; intro w H
  refine la F rfl (x_assign rfl) fun a F => wn (hK5 _ _ ?_)
  refine wp_ret ?_
  try simp only [Exit.then, Exit.inBlock]
  exact fin_ret F (resct F rfl rfl rfl (H.at 2 rfl) ty93 rfl) ⟨zO, none, 0, false, rfl, H.mods, RowOut.nil _ _ _ _, ReadO.no hz⟩
 have hc18 := hb18; try simp only [bL] at hc18
 have hdec : decR bs = some dl := by rw [hdl]; cases hd : decR bs with | some l => rfl | none => rw [hd] at hc18; exact absurd hc18 (by decide)
 refine lgs F hb18 rfl (x_move (F.t 4 rfl)) fun a F => lgs F hb18 rfl (x_len_slice Tryz.underlying60 (F.t 19 rfl)) fun a F => lgs F hb18 rfl (x_neq (F.t 20 rfl) rfl) fun a F => la F rfl (x_pickF (F.t 18 rfl) hb18 (F.t 21 rfl)) fun a F => la F rfl (x_move (F.t 22 rfl)) fun a F => ?_
 refine split_bool F 23 rfl (fun hb23 => ?_) (fun hb23 => ?_)
 ·have hc23 := hb23; try simp only [bL] at hc23
  have hz : NoO bs := noO_len hdec hc23
  refine los F hb23 rfl fun a F => los F hb23 rfl fun a F => los F hb23 rfl fun a F => los F hb23 rfl fun a F => los F hb23 rfl fun a F => los F hb23 rfl fun a F => la F rfl (x_pickT (F.t 23 rfl) hb23 rfl) fun a F => wn (hK4 _ _ ?_)
  refine wp_cond_true (F.t 30 rfl) ?_
  refine sr fun _ hK6 => la F rfl (x_buildS (cells := #[.int .i64 0, .string (strOfNums []), .int .i64 0, .string (strOfNums []), .string (strOfNums []), .int .i64 0, .string (strOfNums []), .int .i64 0, .int .u64 0, .int .u64 0, .slice none 0 0]) (places := #[(0, 1), (1, 1), (2, 4), (6, 5)]) Tryz.underlying93 ty93 (by kernel_rfl) Array.map_empty rfl) fun a F => ?_
  refine lp rfl ?_
  refine w_storeA 2 H ty93 rfl (F.t 2 rfl) (F.t 31 rfl) rfl (by simp [Value.cells, Value.oneCell']) rfl ?_
  clear H; intro w H
  refine la F rfl (x_assign rfl) fun a F => wn (hK6 _ _ ?_)
  refine wp_ret ?_
  try simp only [Exit.then, Exit.inBlock]
  exact fin_ret F (resct F rfl rfl rfl (H.at 2 rfl) ty93 rfl) ⟨zO, none, 0, false, rfl, H.mods, RowOut.nil _ _ _ _, ReadO.no hz⟩
 have hc23 := hb23; try simp only [bL] at hc23
 have hl2 : (dl.length : Int) = 2 := hc23
 obtain ⟨fA1, fc1, hfr1, hf1_0, hf1_1, hfw1⟩ := Rd.fld ((H.rd 13 rfl)) (gf_some (xs := dl) (i := 0) (by omega) (by omega))
 have H := H.subrd 13 rfl 1001 hfr1 (fun _ h => h)
 have H := H.subcels 13 rfl 1499 hfw1 (Rd.inok ((H.rd 13 rfl)) (by omega) _)
 have H := H.subcel 13 rfl 1500 hf1_0 (Rd.inok ((H.rd 13 rfl)) (by omega) _)
 have H := H.subcel 13 rfl 1501 hf1_1 (Rd.inok ((H.rd 13 rfl)) (by omega) _)
 refine lgs F hb23 rfl (x_move (F.t 4 rfl)) fun a F => lgs F hb23 rfl (x_iaddr_A Tryz.underlying60 ty57 ((H.rd 13 rfl)) (F.t 24 rfl) rfl (by omega) (by omega) _) fun a F => lgs F hb23 rfl (x_faddrA ((H.rd 13 rfl)) (by omega) _ Tryz.underlying57 rfl ty27 (by decide) (F.t 25 rfl) rfl) fun a F => lgs F hb23 rfl (x_load1 ty27 (F.t 26 rfl) (H.holds 1501 _ rfl)) fun a F => lgs F hb23 rfl (x_len_slice Tryz.underlying27 (F.t 27 rfl)) fun a F => lgs F hb23 rfl (x_neq (F.t 28 rfl) rfl) fun a F => la F rfl (x_pickF (F.t 23 rfl) hb23 (F.t 29 rfl)) fun a F => wn (hK4 _ _ ?_)
 refine wp_cond_split (F.t 30 rfl) (fun hc30 => ?_) (fun hc30 => ?_)
 ·have hk30_1 := hc30; try simp only [bL] at hc30
  have hz : NoO bs := noO_one hdec hc30
  refine sr fun _ hK7 => la F rfl (x_buildS (cells := #[.int .i64 0, .string (strOfNums []), .int .i64 0, .string (strOfNums []), .string (strOfNums []), .int .i64 0, .string (strOfNums []), .int .i64 0, .int .u64 0, .int .u64 0, .slice none 0 0]) (places := #[(0, 1), (1, 1), (2, 4), (6, 5)]) Tryz.underlying93 ty93 (by kernel_rfl) Array.map_empty rfl) fun a F => ?_
  refine lp rfl ?_
  refine w_storeA 2 H ty93 rfl (F.t 2 rfl) (F.t 31 rfl) rfl (by simp [Value.cells, Value.oneCell']) rfl ?_
  clear H; intro w H
  refine la F rfl (x_assign rfl) fun a F => wn (hK7 _ _ ?_)
  refine wp_ret ?_
  try simp only [Exit.then, Exit.inBlock]
  exact fin_ret F (resct F rfl rfl rfl (H.at 2 rfl) ty93 rfl) ⟨zO, none, 0, false, rfl, H.mods, RowOut.nil _ _ _ _, ReadO.no hz⟩
 have hk30_2 := hc30; try simp only [bL] at hc30
 have hl1 : ((gf dl 0).2.length : Int) = 1 := hc30
 refine wp_skip (hK3 _ _ (sr fun _ hK8 => la F rfl (x_move (F.t 4 rfl)) fun a F => ?_))
 have hm := gf_in (xs := dl) (i := 0) (by omega) (by omega)
 have hm1 := gf_in (xs := dl) (i := 1) (by omega) (by omega)
 refine la F rfl (x_iaddr_A Tryz.underlying60 ty57 ((H.rd 13 rfl)) (F.t 32 rfl) rfl (by omega) (by omega) _) fun a F => la F rfl (x_faddrA ((H.rd 13 rfl)) (by omega) _ Tryz.underlying57 rfl ty27 (by decide) (F.t 33 rfl) rfl) fun a F => la F rfl (x_load1 ty27 (F.t 34 rfl) (H.holds 1501 _ rfl)) fun a F => la F rfl (x_iaddr_A Tryz.underlying27 ty5 ((H.rd 1001 rfl)) (F.t 35 rfl) rfl (by omega) (by omega) _) fun a F => la F rfl (x_load1 ty5 (F.t 36 rfl) (((H.rd 1001 rfl)).cellA (gi_some (i := 0) (by omega) (by omega)))) fun a F => la F rfl (x_conv Tryz.underlying88 ⟨_, Tryz.underlying5⟩ (F.t 37 rfl) (w64 (by have := ((hbf _ hm : Byte _).gi 0); omega) (by have := ((hbf _ hm : Byte _).gi 0); omega))) fun a F => la F rfl (x_buildS (cells := #[.int .i64 (gi (gf dl 0).2 0), .string (strOfNums []), .int .i64 0, .string (strOfNums []), .string (strOfNums []), .int .i64 0, .string (strOfNums []), .int .i64 0, .int .u64 0, .int .u64 0, .slice none 0 0]) (places := #[(0, 1), (1, 1), (2, 4), (6, 5)]) Tryz.underlying93 ty93 (by kernel_rfl) (by simp only [bM, F.t 38 rfl] <;> rfl) rfl) fun a F => ?_
 refine lp rfl ?_
 refine w_alloc 6 F H rfl ty93 ?_
 clear F H; intro a w b6 F H
 refine lp rfl ?_
 refine w_storeA 6 H ty93 rfl (F.t 6 rfl) (F.t 39 rfl) rfl (by simp [Value.cells, Value.oneCell']) rfl ?_
 clear H; intro w H
 refine wn (hK8 _ _ ?_)
 refine wp_seq_k fun _ hK9 => ?_
 refine sr fun _ hK10 => la F rfl (x_faddr Tryz.underlying93 rfl ty88 (by decide) (F.t 6 rfl) rfl) fun a F => la F rfl (x_load1 ty88 (F.t 40 rfl) (blk_cell (H.at 6 rfl) 0 rfl)) fun a F => wn (hK10 _ _ (wp_block ?_))
 refine wp_seq_k fun _ hK11 => ?_
 refine sr fun _ hK12 => la F rfl (x_eql (F.t 41 rfl) rfl) fun a F => la F rfl (x_assign (F.t 43 rfl)) fun a F => wn (hK12 _ _ ?_)
 refine wp_cond_split (F.t 42 rfl) (fun hc42 => ?_) (fun hc42 => ?_)
 ·have hk42_3 := hc42; try simp only [bL] at hc42
  refine wp_skip (hK11 _ _ ?_)
  refine wp_cond_true ((F.t 42 rfl).trans (by rw [hk42_3])) ?_
  refine wp_region_lit ?_
  obtain ⟨fA2, fc2, hfr2, hf2_0, hf2_1, hfw2⟩ := Rd.fld ((H.rd 13 rfl)) (gf_some (xs := dl) (i := 1) (by omega) (by omega))
  have H := H.subrd 13 rfl 2001 hfr2 (fun _ h => h)
  have H := H.subcels 13 rfl 2499 hfw2 (Rd.inok ((H.rd 13 rfl)) (by omega) _)
  have H := H.subcel 13 rfl 2500 hf2_0 (Rd.inok ((H.rd 13 rfl)) (by omega) _)
  have H := H.subcel 13 rfl 2501 hf2_1 (Rd.inok ((H.rd 13 rfl)) (by omega) _)
  refine la F rfl (x_move (F.t 4 rfl)) fun a F => la F rfl (x_iaddr_A Tryz.underlying60 ty57 ((H.rd 13 rfl)) (F.t 45 rfl) rfl (by omega) (by omega) _) fun a F => la F rfl (x_faddrA ((H.rd 13 rfl)) (by omega) _ Tryz.underlying57 rfl ty27 (by decide) (F.t 46 rfl) rfl) fun a F => la F rfl (x_load1 ty27 (F.t 47 rfl) (H.holds 2501 _ rfl)) fun a F => la F rfl (x_b2s Tryz.underlying27 Tryz.underlying5 Tryz.underlying9 ((H.rd 2001 rfl)) (F.t 48 rfl)) fun a F => la F rfl (x_faddr Tryz.underlying93 rfl ty9 (by decide) (F.t 6 rfl) rfl) fun a F => ?_
  refine lp rfl ?_
  refine w_store 6 H ty9 rfl (F.t 50 rfl) (F.t 49 rfl) rfl (one1 rfl rfl) (by first | decide | exact Nat.le_of_ble_eq_true rfl) ?_
  clear H; intro w H
  refine wn (hK9 _ _ (sr fun _ hK13 => ?_))
  have H : Hp (fun _ => False) w0 _ [(901, .rd_ (.int .u8) A bs c (fun k => k < w0.heap.size)), (2, .blk b2 (.cells #[.int .i64 0, .string (strOfNums []), .int .i64 0, .string (strOfNums []), .string (strOfNums []), .int .i64 0, .string (strOfNums []), .int .i64 0, .int .u64 0, .int .u64 0, .slice none 0 0] 93 (0, 0))), (13, .rd_ FE Ar13 dl cr13 (fun kb => okr13 kb ∨ (Value.slice Ar13 dl.length cr13).ownBlock = some kb)), (1001, .rd_ (.int .u8) (fA1) (gf dl 0).2 fc1 (fun kb => okr13 kb ∨ (Value.slice Ar13 dl.length cr13).ownBlock = some kb)), (1499, .cels (adr Ar13 (Int.toNat 0 * 2)) #[.int .i64 (gf dl 0).1, .slice fA1 (gf dl 0).2.length fc1]), (1500, .cel (adr Ar13 (Int.toNat 0 * 2)) (.int .i64 (gf dl 0).1)), (1501, .cel (adr Ar13 (Int.toNat 0 * 2 + 1)) (.slice fA1 (gf dl 0).2.length fc1)), (6, .blk b6 (.cells #[.int .i64 (gi (gf dl 0).2 0), .string (strOfNums ((gf dl 1).2)), .int .i64 0, .string (strOfNums []), .string (strOfNums []), .int .i64 0, .string (strOfNums []), .int .i64 0, .int .u64 0, .int .u64 0, .slice none 0 0] 93 (0, 0))), (2001, .rd_ (.int .u8) (fA2) (gf dl 1).2 fc2 (fun kb => okr13 kb ∨ (Value.slice Ar13 dl.length cr13).ownBlock = some kb)), (2499, .cels (adr Ar13 (Int.toNat 1 * 2)) #[.int .i64 (gf dl 1).1, .slice fA2 (gf dl 1).2.length fc2]), (2500, .cel (adr Ar13 (Int.toNat 1 * 2)) (.int .i64 (gf dl 1).1)), (2501, .cel (adr Ar13 (Int.toNat 1 * 2 + 1)) (.slice fA2 (gf dl 1).2.length fc2))] := H.sub _ (sub_cons (sub_cons (sub_cons (sub_cons (sub_cons (sub_cons (sub_cons (sub_cons (sub_cons (sub_cons (sub_cons (sub_cons (sub_nil _) 2501 rfl) 2500 rfl) 2499 rfl) 2001 rfl) 6 rfl) 1501 rfl) 1500 rfl) 1499 rfl) 1001 rfl) 13 rfl) 2 rfl) 901 rfl)
  refine la F rfl (x_loadn ty93 (F.t 6 rfl) rfl (blk_whole (H.at 6 rfl))) fun a F => ?_
  refine lp rfl ?_
  refine w_storeA 2 H ty93 rfl (F.t 2 rfl) (F.t 91 rfl) rfl (by simp [Value.cells, Value.oneCell']) rfl ?_
  clear H; intro w H
  refine la F rfl (x_assign rfl) fun a F => wn (hK13 _ _ ?_)
  refine wp_ret ?_
  try simp only [Exit.then, Exit.inBlock]
  have hro := readO_key hdec hbf hm hm1 (by omega) (by omega)
  exact fin_ret F (resct F rfl rfl rfl (H.at 2 rfl) ty93 rfl) ⟨_, none, 0, true, rfl, H.mods, RowOut.nil _ _ _ _, hro⟩
 have hk42_4 := hc42; try simp only [bL] at hc42
 refine wp_region_lit ?_
 refine la F rfl (x_eql (F.t 41 rfl) rfl) fun a F => la F rfl (x_assign (F.t 44 rfl)) fun a F => wn (hK11 _ _ ?_)
 refine wp_cond_split (F.t 42 rfl) (fun hc42 => ?_) (fun hc42 => ?_)
 ·have hk42_5 := hc42; try simp only [bL] at hc42
  refine wp_region_lit ?_
  obtain ⟨fA2, fc2, hfr2, hf2_0, hf2_1, hfw2⟩ := Rd.fld ((H.rd 13 rfl)) (gf_some (xs := dl) (i := 1) (by omega) (by omega))
  have H := H.subrd 13 rfl 2001 hfr2 (fun _ h => h)
  have H := H.subcels 13 rfl 2499 hfw2 (Rd.inok ((H.rd 13 rfl)) (by omega) _)
  have H := H.subcel 13 rfl 2500 hf2_0 (Rd.inok ((H.rd 13 rfl)) (by omega) _)
  have H := H.subcel 13 rfl 2501 hf2_1 (Rd.inok ((H.rd 13 rfl)) (by omega) _)
  refine la F rfl (x_move (F.t 4 rfl)) fun a F => la F rfl (x_iaddr_A Tryz.underlying60 ty57 ((H.rd 13 rfl)) (F.t 45 rfl) rfl (by omega) (by omega) _) fun a F => la F rfl (x_faddrA ((H.rd 13 rfl)) (by omega) _ Tryz.underlying57 rfl ty27 (by decide) (F.t 46 rfl) rfl) fun a F => la F rfl (x_load1 ty27 (F.t 47 rfl) (H.holds 2501 _ rfl)) fun a F => la F rfl (x_b2s Tryz.underlying27 Tryz.underlying5 Tryz.underlying9 ((H.rd 2001 rfl)) (F.t 48 rfl)) fun a F => la F rfl (x_faddr Tryz.underlying93 rfl ty9 (by decide) (F.t 6 rfl) rfl) fun a F => ?_
  refine lp rfl ?_
  refine w_store 6 H ty9 rfl (F.t 50 rfl) (F.t 49 rfl) rfl (one1 rfl rfl) (by first | decide | exact Nat.le_of_ble_eq_true rfl) ?_
  clear H; intro w H
  refine wn (hK9 _ _ (sr fun _ hK14 => ?_))
  have H : Hp (fun _ => False) w0 _ [(901, .rd_ (.int .u8) A bs c (fun k => k < w0.heap.size)), (2, .blk b2 (.cells #[.int .i64 0, .string (strOfNums []), .int .i64 0, .string (strOfNums []), .string (strOfNums []), .int .i64 0, .string (strOfNums []), .int .i64 0, .int .u64 0, .int .u64 0, .slice none 0 0] 93 (0, 0))), (13, .rd_ FE Ar13 dl cr13 (fun kb => okr13 kb ∨ (Value.slice Ar13 dl.length cr13).ownBlock = some kb)), (1001, .rd_ (.int .u8) (fA1) (gf dl 0).2 fc1 (fun kb => okr13 kb ∨ (Value.slice Ar13 dl.length cr13).ownBlock = some kb)), (1499, .cels (adr Ar13 (Int.toNat 0 * 2)) #[.int .i64 (gf dl 0).1, .slice fA1 (gf dl 0).2.length fc1]), (1500, .cel (adr Ar13 (Int.toNat 0 * 2)) (.int .i64 (gf dl 0).1)), (1501, .cel (adr Ar13 (Int.toNat 0 * 2 + 1)) (.slice fA1 (gf dl 0).2.length fc1)), (6, .blk b6 (.cells #[.int .i64 (gi (gf dl 0).2 0), .string (strOfNums ((gf dl 1).2)), .int .i64 0, .string (strOfNums []), .string (strOfNums []), .int .i64 0, .string (strOfNums []), .int .i64 0, .int .u64 0, .int .u64 0, .slice none 0 0] 93 (0, 0))), (2001, .rd_ (.int .u8) (fA2) (gf dl 1).2 fc2 (fun kb => okr13 kb ∨ (Value.slice Ar13 dl.length cr13).ownBlock = some kb)), (2499, .cels (adr Ar13 (Int.toNat 1 * 2)) #[.int .i64 (gf dl 1).1, .slice fA2 (gf dl 1).2.length fc2]), (2500, .cel (adr Ar13 (Int.toNat 1 * 2)) (.int .i64 (gf dl 1).1)), (2501, .cel (adr Ar13 (Int.toNat 1 * 2 + 1)) (.slice fA2 (gf dl 1).2.length fc2))] := H.sub _ (sub_cons (sub_cons (sub_cons (sub_cons (sub_cons (sub_cons (sub_cons (sub_cons (sub_cons (sub_cons (sub_cons (sub_cons (sub_nil _) 2501 rfl) 2500 rfl) 2499 rfl) 2001 rfl) 6 rfl) 1501 rfl) 1500 rfl) 1499 rfl) 1001 rfl) 13 rfl) 2 rfl) 901 rfl)
  refine la F rfl (x_loadn ty93 (F.t 6 rfl) rfl (blk_whole (H.at 6 rfl))) fun a F => ?_
  refine lp rfl ?_
  refine w_storeA 2 H ty93 rfl (F.t 2 rfl) (F.t 91 rfl) rfl (by simp [Value.cells, Value.oneCell']) rfl ?_
  clear H; intro w H
  refine la F rfl (x_assign rfl) fun a F => wn (hK14 _ _ ?_)
  refine wp_ret ?_
  try simp only [Exit.then, Exit.inBlock]
  have hro := readO_key hdec hbf hm hm1 (by omega) (by omega)
  exact fin_ret F (resct F rfl rfl rfl (H.at 2 rfl) ty93 rfl) ⟨_, none, 0, true, rfl, H.mods, RowOut.nil _ _ _ _, hro⟩
 have hk42_6 := hc42; try simp only [bL] at hc42
 refine sr fun _ hK15 => la F rfl (x_eql (F.t 41 rfl) rfl) fun a F => la F rfl (x_assign (F.t 52 rfl)) fun a F => wn (hK15 _ _ ?_)
 refine wp_cond_split (F.t 51 rfl) (fun hc51 => ?_) (fun hc51 => ?_)
 ·have hk51_7 := hc51; try simp only [bL] at hc51
  refine sr fun _ hK16 => ?_
  obtain ⟨fA2, fc2, hfr2, hf2_0, hf2_1, hfw2⟩ := Rd.fld ((H.rd 13 rfl)) (gf_some (xs := dl) (i := 1) (by omega) (by omega))
  have H := H.subrd 13 rfl 2001 hfr2 (fun _ h => h)
  have H := H.subcels 13 rfl 2499 hfw2 (Rd.inok ((H.rd 13 rfl)) (by omega) _)
  have H := H.subcel 13 rfl 2500 hf2_0 (Rd.inok ((H.rd 13 rfl)) (by omega) _)
  have H := H.subcel 13 rfl 2501 hf2_1 (Rd.inok ((H.rd 13 rfl)) (by omega) _)
  refine la F rfl (x_move (F.t 4 rfl)) fun a F => la F rfl (x_iaddr_A Tryz.underlying60 ty57 ((H.rd 13 rfl)) (F.t 54 rfl) rfl (by omega) (by omega) _) fun a F => la F rfl (x_faddrA ((H.rd 13 rfl)) (by omega) _ Tryz.underlying57 rfl ty27 (by decide) (F.t 55 rfl) rfl) fun a F => la F rfl (x_load1 ty27 (F.t 56 rfl) (H.holds 2501 _ rfl)) fun a F => ?_
  refine lp rfl ?_
  refine w_call F (x_enter Tryz.func77 (by kernel_rfl) rfl (by simp only [bM, F.t 57 rfl] <;> rfl)) (radec_calls _ ((H.rd 2001 rfl)) (hbf _ hm1)) rfl rfl ?_
  rintro _ w ⟨vr58, rfl, hm_, hr_⟩; refine ⟨_, rfl, ?_⟩; clear F; intro a F; have H := Hp.rowOut H 58 hm_ hr_; obtain ⟨Ar58, cr58, rfl⟩ := (H.row 58 rfl).form
  refine la F rfl (x_move (F.t 58 rfl)) fun a F => la F rfl (x_extract (F.t 53 rfl) rfl) fun a F => la F rfl (x_extract (F.t 53 rfl) rfl) fun a F => la F rfl (x_assign (F.t 59 rfl)) fun a F => la F rfl (x_assign (F.t 60 rfl)) fun a F => wn (hK16 _ _ ?_)
  refine wp_seq_k fun _ hK17 => ?_
  refine sr fun _ hK18 => la F rfl (x_move (F.t 8 rfl)) fun a F => la F rfl (x_neq (F.t 61 rfl) rfl) fun a F => la F rfl (x_move (F.t 62 rfl)) fun a F => ?_
  refine split_bool F 63 rfl (fun hb63 => ?_) (fun hb63 => ?_)
  ·have hc63 := hb63; try simp only [bL] at hc63
   have hz : NoO bs := noO_step hdec hc51 (fun h => hc63 h.1)
   refine los F hb63 rfl fun a F => los F hb63 rfl fun a F => los F hb63 rfl fun a F => la F rfl (x_pickT (F.t 63 rfl) hb63 rfl) fun a F => wn (hK18 _ _ ?_)
   refine wp_cond_true (F.t 67 rfl) ?_
   refine sr fun _ hK19 => la F rfl (x_buildS (cells := #[.int .i64 0, .string (strOfNums []), .int .i64 0, .string (strOfNums []), .string (strOfNums []), .int .i64 0, .string (strOfNums []), .int .i64 0, .int .u64 0, .int .u64 0, .slice none 0 0]) (places := #[(0, 1), (1, 1), (2, 4), (6, 5)]) Tryz.underlying93 ty93 (by kernel_rfl) Array.map_empty rfl) fun a F => ?_
   refine lp rfl ?_
   refine w_storeA 2 H ty93 rfl (F.t 2 rfl) (F.t 68 rfl) rfl (by simp [Value.cells, Value.oneCell']) rfl ?_
   clear H; intro w H
   refine la F rfl (x_assign rfl) fun a F => wn (hK19 _ _ ?_)
   refine wp_ret ?_
   try simp only [Exit.then, Exit.inBlock]
   exact fin_ret F (resct F rfl rfl rfl (H.at 2 rfl) ty93 rfl) ⟨zO, none, 0, false, rfl, H.mods, RowOut.nil _ _ _ _, ReadO.no hz⟩
  have hc63 := hb63; try simp only [bL] at hc63
  refine lgs F hb63 rfl (x_move (F.t 7 rfl)) fun a F => lgs F hb63 rfl (x_len_slice Tryz.underlying62 (F.t 64 rfl)) fun a F => lgs F hb63 rfl (x_neq (F.t 65 rfl) rfl) fun a F => la F rfl (x_pickF (F.t 63 rfl) hb63 (F.t 66 rfl)) fun a F => wn (hK18 _ _ ?_)
  refine wp_cond_split (F.t 67 rfl) (fun hc67 => ?_) (fun hc67 => ?_)
  ·have hk67_8 := hc67; try simp only [bL] at hc67
   have hz : NoO bs := noO_step hdec hc51 (fun h => hc67 h.2)
   refine sr fun _ hK20 => la F rfl (x_buildS (cells := #[.int .i64 0, .string (strOfNums []), .int .i64 0, .string (strOfNums []), .string (strOfNums []), .int .i64 0, .string (strOfNums []), .int .i64 0, .int .u64 0, .int .u64 0, .slice none 0 0]) (places := #[(0, 1), (1, 1), (2, 4), (6, 5)]) Tryz.underlying93 ty93 (by kernel_rfl) Array.map_empty rfl) fun a F => ?_
   refine lp rfl ?_
   refine w_storeA 2 H ty93 rfl (F.t 2 rfl) (F.t 68 rfl) rfl (by simp [Value.cells, Value.oneCell']) rfl ?_
   clear H; intro w H
   refine la F rfl (x_assign rfl) fun a F => wn (hK20 _ _ ?_)
   refine wp_ret ?_
   try simp only [Exit.then, Exit.inBlock]
   exact fin_ret F (resct F rfl rfl rfl (H.at 2 rfl) ty93 rfl) ⟨zO, none, 0, false, rfl, H.mods, RowOut.nil _ _ _ _, ReadO.no hz⟩
  have hk67_9 := hc67; try simp only [bL] at hc67
  have hro := readO_step hdec hbf hm hm1 hc51 hc67
  refine wp_skip (hK17 _ _ ?_)
  refine wp_region_lit ?_
  refine la F rfl (x_move (F.t 7 rfl)) fun a F => ?_
  obtain ⟨hf3_0, hf3_1, hf3_2, hf3_3, hfw3⟩ := rd_st (Row.rd (ok' := fun k_ => (fun _ => False) k_ ∨ (.slice Ar58 ((adecR (gf dl 1).2).getD []).length cr58 : Value).ownBlock = some k_) (H.row 58 rfl) (fun _ hk_ _ => .inl hk_) (fun _ hk_ => .inr hk_)) (gst_some (xs := ((adecR (gf dl 1).2).getD [])) (i := 0) (by omega) (by omega))
  refine la F rfl (x_iaddr_A Tryz.underlying62 ty91 (Row.rd (ok' := fun k_ => (fun _ => False) k_ ∨ (.slice Ar58 ((adecR (gf dl 1).2).getD []).length cr58 : Value).ownBlock = some k_) (H.row 58 rfl) (fun _ hk_ _ => .inl hk_) (fun _ hk_ => .inr hk_)) (F.t 69 rfl) rfl (by omega) (by omega) _) fun a F => la F rfl (x_loadn ty91 (F.t 70 rfl) rfl hfw3) fun a F => la F rfl (x_faddr Tryz.underlying93 rfl ty91 (by decide) (F.t 6 rfl) rfl) fun a F => ?_
  refine lp rfl ?_
  refine w_store 6 H ty91 rfl (F.t 72 rfl) (F.t 71 rfl) rfl (by simp [Value.cells, Value.oneCell']) (by first | decide | exact Nat.le_of_ble_eq_true rfl) ?_
  clear H; intro w H
  refine wn (hK9 _ _ (sr fun _ hK21 => ?_))
  have H : Hp (fun _ => False) w0 _ [(901, .rd_ (.int .u8) A bs c (fun k => k < w0.heap.size)), (2, .blk b2 (.cells #[.int .i64 0, .string (strOfNums []), .int .i64 0, .string (strOfNums []), .string (strOfNums []), .int .i64 0, .string (strOfNums []), .int .i64 0, .int .u64 0, .int .u64 0, .slice none 0 0] 93 (0, 0))), (13, .rd_ FE Ar13 dl cr13 (fun kb => okr13 kb ∨ (Value.slice Ar13 dl.length cr13).ownBlock = some kb)), (1001, .rd_ (.int .u8) (fA1) (gf dl 0).2 fc1 (fun kb => okr13 kb ∨ (Value.slice Ar13 dl.length cr13).ownBlock = some kb)), (1499, .cels (adr Ar13 (Int.toNat 0 * 2)) #[.int .i64 (gf dl 0).1, .slice fA1 (gf dl 0).2.length fc1]), (1500, .cel (adr Ar13 (Int.toNat 0 * 2)) (.int .i64 (gf dl 0).1)), (1501, .cel (adr Ar13 (Int.toNat 0 * 2 + 1)) (.slice fA1 (gf dl 0).2.length fc1)), (6, .blk b6 (.cells #[.int .i64 (gi (gf dl 0).2 0), .string (strOfNums []), .int .i64 (gst ((adecR (gf dl 1).2).getD []) 0).1, .string (strOfNums (gst ((adecR (gf dl 1).2).getD []) 0).2.1), .string (strOfNums (gst ((adecR (gf dl 1).2).getD []) 0).2.2.1), .int .i64 (gst ((adecR (gf dl 1).2).getD []) 0).2.2.2, .string (strOfNums []), .int .i64 0, .int .u64 0, .int .u64 0, .slice none 0 0] 93 (0, 0))), (2001, .rd_ (.int .u8) (fA2) (gf dl 1).2 fc2 (fun kb => okr13 kb ∨ (Value.slice Ar13 dl.length cr13).ownBlock = some kb)), (2499, .cels (adr Ar13 (Int.toNat 1 * 2)) #[.int .i64 (gf dl 1).1, .slice fA2 (gf dl 1).2.length fc2]), (2500, .cel (adr Ar13 (Int.toNat 1 * 2)) (.int .i64 (gf dl 1).1)), (2501, .cel (adr Ar13 (Int.toNat 1 * 2 + 1)) (.slice fA2 (gf dl 1).2.length fc2)), (58, .row StE 91 (.slice Ar58 ((adecR (gf dl 1).2).getD []).length cr58) ((adecR (gf dl 1).2).getD []) (fun _ => False))] := H.sub _ (sub_cons (sub_cons (sub_cons (sub_cons (sub_cons (sub_cons (sub_cons (sub_cons (sub_cons (sub_cons (sub_cons (sub_cons (sub_cons (sub_nil _) 58 rfl) 2501 rfl) 2500 rfl) 2499 rfl) 2001 rfl) 6 rfl) 1501 rfl) 1500 rfl) 1499 rfl) 1001 rfl) 13 rfl) 2 rfl) 901 rfl)
  refine la F rfl (x_loadn ty93 (F.t 6 rfl) rfl (blk_whole (H.at 6 rfl))) fun a F => ?_
  refine lp rfl ?_
  refine w_storeA 2 H ty93 rfl (F.t 2 rfl) (F.t 91 rfl) rfl (by simp [Value.cells, Value.oneCell']) rfl ?_
  clear H; intro w H
  refine la F rfl (x_assign rfl) fun a F => wn (hK21 _ _ ?_)
  refine wp_ret ?_
  try simp only [Exit.then, Exit.inBlock]
  exact fin_ret F (resct F rfl rfl rfl (H.at 2 rfl) ty93 rfl) ⟨_, none, 0, true, rfl, H.mods, RowOut.nil _ _ _ _, hro⟩
 have hk51_10 := hc51; try simp only [bL] at hc51
 refine sr fun _ hK22 => la F rfl (x_eql (F.t 41 rfl) rfl) fun a F => la F rfl (x_assign (F.t 74 rfl)) fun a F => wn (hK22 _ _ ?_)
 refine wp_cond_split (F.t 73 rfl) (fun hc73 => ?_) (fun hc73 => ?_)
 ·have hk73_11 := hc73; try simp only [bL] at hc73
  refine sr fun _ hK23 => ?_
  obtain ⟨fA2, fc2, hfr2, hf2_0, hf2_1, hfw2⟩ := Rd.fld ((H.rd 13 rfl)) (gf_some (xs := dl) (i := 1) (by omega) (by omega))
  have H := H.subrd 13 rfl 2001 hfr2 (fun _ h => h)
  have H := H.subcels 13 rfl 2499 hfw2 (Rd.inok ((H.rd 13 rfl)) (by omega) _)
  have H := H.subcel 13 rfl 2500 hf2_0 (Rd.inok ((H.rd 13 rfl)) (by omega) _)
  have H := H.subcel 13 rfl 2501 hf2_1 (Rd.inok ((H.rd 13 rfl)) (by omega) _)
  refine la F rfl (x_move (F.t 4 rfl)) fun a F => la F rfl (x_iaddr_A Tryz.underlying60 ty57 ((H.rd 13 rfl)) (F.t 76 rfl) rfl (by omega) (by omega) _) fun a F => la F rfl (x_faddrA ((H.rd 13 rfl)) (by omega) _ Tryz.underlying57 rfl ty27 (by decide) (F.t 77 rfl) rfl) fun a F => la F rfl (x_load1 ty27 (F.t 78 rfl) (H.holds 2501 _ rfl)) fun a F => ?_
  refine lp rfl ?_
  refine w_call F (x_enter Tryz.func43 (by kernel_rfl) rfl (by simp only [bM, F.t 79 rfl] <;> rfl)) (rdecC_calls _ ((H.rd 2001 rfl)) (hbf _ hm1)) rfl rfl ?_
  rintro _ w ⟨x, Ad, cd, g, rfl, hm_, hr_, hD_⟩; refine ⟨_, rfl, ?_⟩; clear F; intro a F; have H := Hp.rowOut H 70 hm_ hr_
  refine la F rfl (x_move (F.t 80 rfl)) fun a F => la F rfl (x_extract (F.t 75 rfl) rfl) fun a F => la F rfl (x_extract (F.t 75 rfl) rfl) fun a F => ?_
  refine lp rfl ?_
  refine w_alloc 9 F H rfl ty66 ?_
  clear F H; intro a w b9 F H
  refine lp rfl ?_
  refine w_storeA 9 H ty66 rfl (F.t 9 rfl) (F.t 81 rfl) rfl (by simp [Value.cells, Value.oneCell']) rfl ?_
  clear H; intro w H
  refine la F rfl (x_assign (F.t 82 rfl)) fun a F => wn (hK23 _ _ ?_)
  refine wp_seq_k fun _ hK24 => ?_
  refine sr fun _ hK25 => la F rfl (x_move (F.t 10 rfl)) fun a F => la F rfl (x_neq (F.t 83 rfl) rfl) fun a F => wn (hK25 _ _ ?_)
  refine wp_cond_split (F.t 84 rfl) (fun hc84 => ?_) (fun hc84 => ?_)
  ·have hk84_12 := hc84; try simp only [bL] at hc84
   have hz : NoO bs := noO_arm hdec hc73 hD_ hc84
   refine sr fun _ hK26 => la F rfl (x_buildS (cells := #[.int .i64 0, .string (strOfNums []), .int .i64 0, .string (strOfNums []), .string (strOfNums []), .int .i64 0, .string (strOfNums []), .int .i64 0, .int .u64 0, .int .u64 0, .slice none 0 0]) (places := #[(0, 1), (1, 1), (2, 4), (6, 5)]) Tryz.underlying93 ty93 (by kernel_rfl) Array.map_empty rfl) fun a F => ?_
   refine lp rfl ?_
   refine w_storeA 2 H ty93 rfl (F.t 2 rfl) (F.t 85 rfl) rfl (by simp [Value.cells, Value.oneCell']) rfl ?_
   clear H; intro w H
   refine la F rfl (x_assign rfl) fun a F => wn (hK26 _ _ ?_)
   refine wp_ret ?_
   try simp only [Exit.then, Exit.inBlock]
   exact fin_ret F (resct F rfl rfl rfl (H.at 2 rfl) ty93 rfl) ⟨zO, none, 0, false, rfl, H.mods, RowOut.nil _ _ _ _, ReadO.no hz⟩
  have hk84_13 := hc84; try simp only [bL] at hc84
  have hro := readO_arm hdec hbf hm hc73 hD_
  refine wp_skip (hK24 _ _ (sr fun _ hK27 => la F rfl (x_faddr Tryz.underlying66 rfl ty64 (by decide) (F.t 9 rfl) rfl) fun a F => la F rfl (x_loadn (cs := #[.string (strOfNums x.timer.name), .int .i64 x.timer.ver, .int .u64 x.timer.tick, .int .u64 x.timer.every, .slice Ad x.timer.steps.length cd]) ty64 (F.t 86 rfl) rfl (blk_sub (H.at 9 rfl) 3 5 rfl)) fun a F => la F rfl (x_faddr Tryz.underlying93 rfl ty64 (by decide) (F.t 6 rfl) rfl) fun a F => ?_))
  refine lp rfl ?_
  refine w_store 6 H ty64 rfl (F.t 88 rfl) (F.t 87 rfl) rfl (show ∀ u ∈ (Value.agg #[.string (strOfNums x.timer.name), .int .i64 x.timer.ver, .int .u64 x.timer.tick, .int .u64 x.timer.every, .slice Ad x.timer.steps.length cd]).cells.toList, u.oneCell' = true from (by simp [Value.cells, Value.oneCell'])) (by first | decide | exact Nat.le_of_ble_eq_true rfl) ?_
  clear H; intro w H
  refine wn (hK27 _ _ ?_)
  refine wp_region_lit ?_
  refine la F rfl (x_faddr Tryz.underlying93 rfl ty64 (by decide) (F.t 6 rfl) rfl) fun a F => la F rfl (x_faddr Tryz.underlying64 rfl ty3 (by decide) (F.t 89 rfl) rfl) fun a F => ?_
  refine lp rfl ?_
  refine w_store 6 H ty3 rfl (F.t 90 rfl) rfl rfl (one1 rfl rfl) (by first | decide | exact Nat.le_of_ble_eq_true rfl) ?_
  clear H; intro w H
  refine wn (hK9 _ _ (sr fun _ hK28 => ?_))
  have H : Hp (fun _ => False) w0 _ [(901, .rd_ (.int .u8) A bs c (fun k => k < w0.heap.size)), (2, .blk b2 (.cells #[.int .i64 0, .string (strOfNums []), .int .i64 0, .string (strOfNums []), .string (strOfNums []), .int .i64 0, .string (strOfNums []), .int .i64 0, .int .u64 0, .int .u64 0, .slice none 0 0] 93 (0, 0))), (13, .rd_ FE Ar13 dl cr13 (fun kb => okr13 kb ∨ (Value.slice Ar13 dl.length cr13).ownBlock = some kb)), (1001, .rd_ (.int .u8) (fA1) (gf dl 0).2 fc1 (fun kb => okr13 kb ∨ (Value.slice Ar13 dl.length cr13).ownBlock = some kb)), (1499, .cels (adr Ar13 (Int.toNat 0 * 2)) #[.int .i64 (gf dl 0).1, .slice fA1 (gf dl 0).2.length fc1]), (1500, .cel (adr Ar13 (Int.toNat 0 * 2)) (.int .i64 (gf dl 0).1)), (1501, .cel (adr Ar13 (Int.toNat 0 * 2 + 1)) (.slice fA1 (gf dl 0).2.length fc1)), (6, .blk b6 (.cells #[.int .i64 (gi (gf dl 0).2 0), .string (strOfNums []), .int .i64 0, .string (strOfNums []), .string (strOfNums []), .int .i64 0, .string (strOfNums x.timer.name), .int .i64 0, .int .u64 x.timer.tick, .int .u64 x.timer.every, .slice Ad x.timer.steps.length cd] 93 (0, 0))), (2001, .rd_ (.int .u8) (fA2) (gf dl 1).2 fc2 (fun kb => okr13 kb ∨ (Value.slice Ar13 dl.length cr13).ownBlock = some kb)), (2499, .cels (adr Ar13 (Int.toNat 1 * 2)) #[.int .i64 (gf dl 1).1, .slice fA2 (gf dl 1).2.length fc2]), (2500, .cel (adr Ar13 (Int.toNat 1 * 2)) (.int .i64 (gf dl 1).1)), (2501, .cel (adr Ar13 (Int.toNat 1 * 2 + 1)) (.slice fA2 (gf dl 1).2.length fc2)), (70, .row StE 91 (.slice Ad x.timer.steps.length cd) x.timer.steps (fun _ => False)), (9, .blk b9 (.cells #[.int .i64 x.kind, .string (strOfNums x.key), .string (strOfNums x.value), .string (strOfNums x.timer.name), .int .i64 x.timer.ver, .int .u64 x.timer.tick, .int .u64 x.timer.every, .slice Ad x.timer.steps.length cd] 66 (0, 0)))] := H.sub _ (sub_cons (sub_cons (sub_cons (sub_cons (sub_cons (sub_cons (sub_cons (sub_cons (sub_cons (sub_cons (sub_cons (sub_cons (sub_cons (sub_cons (sub_nil _) 9 rfl) 70 rfl) 2501 rfl) 2500 rfl) 2499 rfl) 2001 rfl) 6 rfl) 1501 rfl) 1500 rfl) 1499 rfl) 1001 rfl) 13 rfl) 2 rfl) 901 rfl)
  refine la F rfl (x_loadn ty93 (F.t 6 rfl) rfl (blk_whole (H.at 6 rfl))) fun a F => ?_
  refine lp rfl ?_
  refine w_storeA 2 H ty93 rfl (F.t 2 rfl) (F.t 91 rfl) rfl (by simp [Value.cells, Value.oneCell']) rfl ?_
  clear H; intro w H
  refine la F rfl (x_assign rfl) fun a F => wn (hK28 _ _ ?_)
  refine wp_ret ?_
  try simp only [Exit.then, Exit.inBlock]
  exact fin_ret F (resct F rfl rfl rfl (H.at 2 rfl) ty93 rfl) ⟨_, Ad, cd, true, rfl, H.mods, Hp.out H 70 rfl, hro⟩
 have hk73_14 := hc73; try simp only [bL] at hc73
 have hro := readO_none hdec hbf hm (by omega)
 refine wp_skip (hK9 _ _ (sr fun _ hK29 => ?_))
 have H : Hp (fun _ => False) w0 _ [(901, .rd_ (.int .u8) A bs c (fun k => k < w0.heap.size)), (2, .blk b2 (.cells #[.int .i64 0, .string (strOfNums []), .int .i64 0, .string (strOfNums []), .string (strOfNums []), .int .i64 0, .string (strOfNums []), .int .i64 0, .int .u64 0, .int .u64 0, .slice none 0 0] 93 (0, 0))), (13, .rd_ FE Ar13 dl cr13 (fun kb => okr13 kb ∨ (Value.slice Ar13 dl.length cr13).ownBlock = some kb)), (1001, .rd_ (.int .u8) (fA1) (gf dl 0).2 fc1 (fun kb => okr13 kb ∨ (Value.slice Ar13 dl.length cr13).ownBlock = some kb)), (1499, .cels (adr Ar13 (Int.toNat 0 * 2)) #[.int .i64 (gf dl 0).1, .slice fA1 (gf dl 0).2.length fc1]), (1500, .cel (adr Ar13 (Int.toNat 0 * 2)) (.int .i64 (gf dl 0).1)), (1501, .cel (adr Ar13 (Int.toNat 0 * 2 + 1)) (.slice fA1 (gf dl 0).2.length fc1)), (6, .blk b6 (.cells #[.int .i64 (gi (gf dl 0).2 0), .string (strOfNums []), .int .i64 0, .string (strOfNums []), .string (strOfNums []), .int .i64 0, .string (strOfNums []), .int .i64 0, .int .u64 0, .int .u64 0, .slice none 0 0] 93 (0, 0)))] := H.sub _ (sub_cons (sub_cons (sub_cons (sub_cons (sub_cons (sub_cons (sub_cons (sub_cons (sub_nil _) 6 rfl) 1501 rfl) 1500 rfl) 1499 rfl) 1001 rfl) 13 rfl) 2 rfl) 901 rfl)
 refine la F rfl (x_loadn ty93 (F.t 6 rfl) rfl (blk_whole (H.at 6 rfl))) fun a F => ?_
 refine lp rfl ?_
 refine w_storeA 2 H ty93 rfl (F.t 2 rfl) (F.t 91 rfl) rfl (by simp [Value.cells, Value.oneCell']) rfl ?_
 clear H; intro w H
 refine la F rfl (x_assign rfl) fun a F => wn (hK29 _ _ ?_)
 refine wp_ret ?_
 try simp only [Exit.then, Exit.inBlock]
 exact fin_ret F (resct F rfl rfl rfl (H.at 2 rfl) ty93 rfl) ⟨_, none, 0, true, rfl, H.mods, RowOut.nil _ _ _ _, hro⟩
theorem rdecQ_calls (w0 : World) {ok : Nat → Prop} {A : Option Addr} {bs : List Int} {c : Nat} (hrb : Rd (.int .u8) w0 ok A bs c) (hby : Byte bs) : Calls Tryz.prog 20 #[.slice A bs.length c] w0 fun e w' => ∃ (r : SReqD) (Ao : Option Addr) (co : Nat) (oko : Nat → Prop) (g : Int), e = .returned (.tuple #[.agg #[.string (strOfNums r.client), .int .i64 r.num, .slice Ao r.ops.length co], .int .i64 g]) ∧ Mods (fun _ => False) w0 w' ∧ Rd OpdE w' oko Ao r.ops co ∧ (∀ k, oko k → w0.heap.size ≤ k ∧ k < w'.heap.size) ∧ DecQ bs r g := by
 refine cow Tryz.func20 rfl Tryz.ntmps20 (Nat.le_of_ble_eq_true rfl) fun a F => ?_
 have H := Hp.nil (fun _ => False) w0
 have H := H.arg 901 hrb.all (fun _ h => ⟨h, fun h => h⟩)
 have hleb := hrb.le; unfold maxLen at hleb
 refine sr fun _ hK1 => ?_
 refine lp rfl ?_
 refine w_alloc 2 F H rfl ty43 ?_
 clear F H; intro a w b2 F H
 refine la F rfl (x_assign rfl) fun a F => wn (hK1 _ _ ?_)
 refine wp_seq_k fun _ hK2 => ?_
 refine sr fun _ hK3 => la F rfl (x_move (F.t 0 rfl)) fun a F => la F rfl (x_len_slice Tryz.underlying27 (F.t 14 rfl)) fun a F => la F rfl (x_lss (F.t 15 rfl) rfl) fun a F => wn (hK3 _ _ ?_)
 refine wp_cond_split (F.t 16 rfl) (fun hc16 => ?_) (fun hc16 => ?_)
 ·have hk16_1 := hc16; try simp only [bL] at hc16
  have hz : NoQ bs := noQ_short hc16
  refine sr fun _ hK4 => la F rfl (x_buildS (cells := #[.string (strOfNums []), .int .i64 0, .slice none 0 0]) (places := #[(0, 1), (1, 1), (2, 1)]) Tryz.underlying43 ty43 (by kernel_rfl) Array.map_empty rfl) fun a F => ?_
  refine lp rfl ?_
  refine w_storeA 2 H ty43 rfl (F.t 2 rfl) (F.t 17 rfl) rfl (by simp [Value.cells, Value.oneCell']) rfl ?_
  clear H; intro w H
  refine la F rfl (x_assign rfl) fun a F => wn (hK4 _ _ ?_)
  refine wp_ret ?_
  try simp only [Exit.then, Exit.inBlock]
  exact fin_ret F (resct F rfl rfl rfl (H.at 2 rfl) ty43 rfl) ⟨zR, none, 0, (fun _ => False), 221, rfl, H.mods, Rd.nil _ _ _, (fun k h => h.elim), DecQ.no hz⟩
 have hk16_2 := hc16; try simp only [bL] at hc16
 refine wp_skip (hK2 _ _ (sr fun _ hK5 => la F rfl (x_move (F.t 0 rfl)) fun a F => la F rfl (x_move (F.t 0 rfl)) fun a F => la F rfl (x_len_slice Tryz.underlying27 (F.t 20 rfl)) fun a F => la F rfl (x_sub (F.t 21 rfl) rfl (w64 (by omega) (by omega))) fun a F => la F rfl (x_slice_h Tryz.underlying27 ty5 (F.t 19 rfl) (F.t 22 rfl) (by omega) (by omega) ((H.rd 901 rfl)).1) fun a F => ?_))
 refine lp rfl ?_
 refine w_call F (x_enter Tryz.func41 (by kernel_rfl) rfl (by simp only [bM, F.t 23 rfl] <;> rfl)) (refDec_calls _ ((Rd.take ((H.rd 901 rfl)) (((bs.length : Int) - 4).toNat))) ((hby : Byte _).take _)) rfl rfl ?_
 rintro _ w ⟨vr24, rfl, hm_, okr24, hr_, hf_, ho24_⟩; refine ⟨_, rfl, ?_⟩; clear F; intro a F; have H := H.newRow 24 hm_ hr_ hf_ ho24_; obtain ⟨Ar24, cr24, rfl⟩ := (H.row 24 rfl).form
 refine la F rfl (x_move (F.t 24 rfl)) fun a F => la F rfl (x_extract (F.t 18 rfl) rfl) fun a F => la F rfl (x_extract (F.t 18 rfl) rfl) fun a F => la F rfl (x_assign (F.t 25 rfl)) fun a F => la F rfl (x_assign (F.t 26 rfl)) fun a F => ?_
 have hbT := bodyT_is hc16
 obtain ⟨dl, hdl0⟩ : ∃ dl, dl = (decR (bs.take (Int.toNat ((bs.length : Int) - 4)))).getD [] := ⟨_, rfl⟩
 rw [← hdl0] at F H
 have hsh : short dl = true := by rw [hdl0]; exact dl_short ((hby : Byte _).take _)
 have hbf : ∀ f ∈ dl, Byte f.2 := by rw [hdl0]; exact dl_byte ((hby : Byte _).take _)
 have H := H.freeze 24 rfl (fun kb => okr24 kb ∨ (Value.slice Ar24 dl.length cr24).ownBlock = some kb) (fun kb => Iff.rfl)
 refine wn (hK5 _ _ ?_)
 refine wp_seq_k fun _ hK6 => ?_
 refine sr fun _ hK7 => la F rfl (x_move (F.t 5 rfl)) fun a F => la F rfl (x_neq (F.t 27 rfl) rfl) fun a F => la F rfl (x_move (F.t 28 rfl)) fun a F => ?_
 refine split_bool F 29 rfl (fun hb29 => ?_) (fun hb29 => ?_)
 ·have hc29 := hb29; try simp only [bL] at hc29
  have hz : NoQ bs := noQ_none (by rw [← hbT]; cases hd : decR (bs.take (Int.toNat ((bs.length : Int) - 4))) with | none => rfl | some l => rw [hd] at hc29; exact absurd rfl hc29)
  refine los F hb29 rfl fun a F => los F hb29 rfl fun a F => los F hb29 rfl fun a F => la F rfl (x_pickT (F.t 29 rfl) hb29 rfl) fun a F => wn (hK7 _ _ ?_)
  refine wp_cond_true (F.t 33 rfl) ?_
  refine sr fun _ hK8 => la F rfl (x_buildS (cells := #[.string (strOfNums []), .int .i64 0, .slice none 0 0]) (places := #[(0, 1), (1, 1), (2, 1)]) Tryz.underlying43 ty43 (by kernel_rfl) Array.map_empty rfl) fun a F => ?_
  refine lp rfl ?_
  refine w_storeA 2 H ty43 rfl (F.t 2 rfl) (F.t 34 rfl) rfl (by simp [Value.cells, Value.oneCell']) rfl ?_
  clear H; intro w H
  refine la F rfl (x_assign rfl) fun a F => wn (hK8 _ _ ?_)
  refine wp_ret ?_
  try simp only [Exit.then, Exit.inBlock]
  exact fin_ret F (resct F rfl rfl rfl (H.at 2 rfl) ty43 rfl) ⟨zR, none, 0, (fun _ => False), 221, rfl, H.mods, Rd.nil _ _ _, (fun k h => h.elim), DecQ.no hz⟩
 have hc29 := hb29; try simp only [bL] at hc29
 have hdec : decR (bodyM bs) = some dl := by rw [hdl0, ← hbT]; cases hd : decR (bs.take (Int.toNat ((bs.length : Int) - 4))) with | some l => rfl | none => rw [hd] at hc29; exact absurd hc29 (by decide)
 have hfew := dl_few ((hby : Byte _).take _) hdec
 refine lgs F hb29 rfl (x_move (F.t 4 rfl)) fun a F => lgs F hb29 rfl (x_len_slice Tryz.underlying60 (F.t 30 rfl)) fun a F => lgs F hb29 rfl (x_lss (F.t 31 rfl) rfl) fun a F => la F rfl (x_pickF (F.t 29 rfl) hb29 (F.t 32 rfl)) fun a F => wn (hK7 _ _ ?_)
 refine wp_cond_split (F.t 33 rfl) (fun hc33 => ?_) (fun hc33 => ?_)
 ·have hk33_3 := hc33; try simp only [bL] at hc33
  have hz : NoQ bs := noQ_shape hdec (fun h => by have := h.1; omega)
  refine sr fun _ hK9 => la F rfl (x_buildS (cells := #[.string (strOfNums []), .int .i64 0, .slice none 0 0]) (places := #[(0, 1), (1, 1), (2, 1)]) Tryz.underlying43 ty43 (by kernel_rfl) Array.map_empty rfl) fun a F => ?_
  refine lp rfl ?_
  refine w_storeA 2 H ty43 rfl (F.t 2 rfl) (F.t 34 rfl) rfl (by simp [Value.cells, Value.oneCell']) rfl ?_
  clear H; intro w H
  refine la F rfl (x_assign rfl) fun a F => wn (hK9 _ _ ?_)
  refine wp_ret ?_
  try simp only [Exit.then, Exit.inBlock]
  exact fin_ret F (resct F rfl rfl rfl (H.at 2 rfl) ty43 rfl) ⟨zR, none, 0, (fun _ => False), 221, rfl, H.mods, Rd.nil _ _ _, (fun k h => h.elim), DecQ.no hz⟩
 have hk33_4 := hc33; try simp only [bL] at hc33
 refine wp_skip (hK6 _ _ (sr fun _ hK10 => ?_))
 obtain ⟨fA2, fc2, hfr2, hf2_0, hf2_1, hfw2⟩ := Rd.fld ((H.rd 24 rfl)) (gf_some (xs := dl) (i := 1) (by omega) (by omega))
 have H := H.subrd 24 rfl 2001 hfr2 (fun _ h => h)
 have H := H.subcels 24 rfl 2499 hfw2 (Rd.inok ((H.rd 24 rfl)) (by omega) _)
 have H := H.subcel 24 rfl 2500 hf2_0 (Rd.inok ((H.rd 24 rfl)) (by omega) _)
 have H := H.subcel 24 rfl 2501 hf2_1 (Rd.inok ((H.rd 24 rfl)) (by omega) _)
 refine la F rfl (x_move (F.t 4 rfl)) fun a F => la F rfl (x_iaddr_A Tryz.underlying60 ty57 ((H.rd 24 rfl)) (F.t 36 rfl) rfl (by omega) (by omega) _) fun a F => la F rfl (x_faddrA ((H.rd 24 rfl)) (by omega) _ Tryz.underlying57 rfl ty27 (by decide) (F.t 37 rfl) rfl) fun a F => la F rfl (x_load1 ty27 (F.t 38 rfl) (H.holds 2501 _ rfl)) fun a F => ?_
 refine lp rfl ?_
 refine w_call F (x_enter Tryz.func42 (by kernel_rfl) rfl (by simp only [bM, F.t 39 rfl] <;> rfl)) (refNum_calls _ ((H.rd 2001 rfl)) (gb1 hbf)) rfl rfl ?_
 rintro _ w ⟨rfl, hm_⟩; refine ⟨_, rfl, ?_⟩; clear F; intro a F; have H := H.same hm_
 refine la F rfl (x_move (F.t 40 rfl)) fun a F => la F rfl (x_extract (F.t 35 rfl) rfl) fun a F => la F rfl (x_extract (F.t 35 rfl) rfl) fun a F => la F rfl (x_assign (F.t 41 rfl)) fun a F => la F rfl (x_assign (F.t 42 rfl)) fun a F => wn (hK10 _ _ ?_)
 refine wp_seq_k fun _ hK11 => ?_
 refine sr fun _ hK12 => la F rfl (x_move (F.t 7 rfl)) fun a F => la F rfl (x_not (F.t 43 rfl)) fun a F => la F rfl (x_move (F.t 44 rfl)) fun a F => ?_
 refine split_bool F 45 rfl (fun hb45 => ?_) (fun hb45 => ?_)
 ·have hc45 := hb45; try simp only [bL] at hc45
  have hz : NoQ bs := noQ_shape hdec (fun h => by rw [h.2.1] at hc45; exact absurd hc45 (by decide))
  refine los F hb45 rfl fun a F => los F hb45 rfl fun a F => la F rfl (x_pickT (F.t 45 rfl) hb45 rfl) fun a F => wn (hK12 _ _ ?_)
  refine wp_cond_true (F.t 48 rfl) ?_
  refine sr fun _ hK13 => la F rfl (x_buildS (cells := #[.string (strOfNums []), .int .i64 0, .slice none 0 0]) (places := #[(0, 1), (1, 1), (2, 1)]) Tryz.underlying43 ty43 (by kernel_rfl) Array.map_empty rfl) fun a F => ?_
  refine lp rfl ?_
  refine w_storeA 2 H ty43 rfl (F.t 2 rfl) (F.t 49 rfl) rfl (by simp [Value.cells, Value.oneCell']) rfl ?_
  clear H; intro w H
  refine la F rfl (x_assign rfl) fun a F => wn (hK13 _ _ ?_)
  refine wp_ret ?_
  try simp only [Exit.then, Exit.inBlock]
  exact fin_ret F (resct F rfl rfl rfl (H.at 2 rfl) ty43 rfl) ⟨zR, none, 0, (fun _ => False), 221, rfl, H.mods, Rd.nil _ _ _, (fun k h => h.elim), DecQ.no hz⟩
 have hc45 := hb45; try simp only [bL] at hc45
 refine lgs F hb45 rfl (x_move (F.t 6 rfl)) fun a F => lgs F hb45 rfl (x_gtr (F.t 46 rfl) rfl) fun a F => la F rfl (x_pickF (F.t 45 rfl) hb45 (F.t 47 rfl)) fun a F => wn (hK12 _ _ ?_)
 refine wp_cond_split (F.t 48 rfl) (fun hc48 => ?_) (fun hc48 => ?_)
 ·have hk48_5 := hc48; try simp only [bL] at hc48
  have hz : NoQ bs := noQ_shape hdec (fun h => h.2.2 (by omega))
  refine sr fun _ hK14 => la F rfl (x_buildS (cells := #[.string (strOfNums []), .int .i64 0, .slice none 0 0]) (places := #[(0, 1), (1, 1), (2, 1)]) Tryz.underlying43 ty43 (by kernel_rfl) Array.map_empty rfl) fun a F => ?_
  refine lp rfl ?_
  refine w_storeA 2 H ty43 rfl (F.t 2 rfl) (F.t 49 rfl) rfl (by simp [Value.cells, Value.oneCell']) rfl ?_
  clear H; intro w H
  refine la F rfl (x_assign rfl) fun a F => wn (hK14 _ _ ?_)
  refine wp_ret ?_
  try simp only [Exit.then, Exit.inBlock]
  exact fin_ret F (resct F rfl rfl rfl (H.at 2 rfl) ty43 rfl) ⟨zR, none, 0, (fun _ => False), 221, rfl, H.mods, Rd.nil _ _ _, (fun k h => h.elim), DecQ.no hz⟩
 have hk48_6 := hc48; try simp only [bL] at hc48
 refine wp_skip (hK11 _ _ (sr fun _ hK15 => ?_))
 obtain ⟨fA1, fc1, hfr1, hf1_0, hf1_1, hfw1⟩ := Rd.fld ((H.rd 24 rfl)) (gf_some (xs := dl) (i := 0) (by omega) (by omega))
 have H := H.subrd 24 rfl 1001 hfr1 (fun _ h => h)
 have H := H.subcels 24 rfl 1499 hfw1 (Rd.inok ((H.rd 24 rfl)) (by omega) _)
 have H := H.subcel 24 rfl 1500 hf1_0 (Rd.inok ((H.rd 24 rfl)) (by omega) _)
 have H := H.subcel 24 rfl 1501 hf1_1 (Rd.inok ((H.rd 24 rfl)) (by omega) _)
 refine la F rfl (x_move (F.t 4 rfl)) fun a F => la F rfl (x_iaddr_A Tryz.underlying60 ty57 ((H.rd 24 rfl)) (F.t 50 rfl) rfl (by omega) (by omega) _) fun a F => la F rfl (x_faddrA ((H.rd 24 rfl)) (by omega) _ Tryz.underlying57 rfl ty27 (by decide) (F.t 51 rfl) rfl) fun a F => la F rfl (x_load1 ty27 (F.t 52 rfl) (H.holds 1501 _ rfl)) fun a F => la F rfl (x_b2s Tryz.underlying27 Tryz.underlying5 Tryz.underlying9 ((H.rd 1001 rfl)) (F.t 53 rfl)) fun a F => la F rfl (x_move (F.t 6 rfl)) fun a F => la F rfl (x_conv Tryz.underlying3 ⟨_, Tryz.underlying59⟩ (F.t 55 rfl) (w64 (by have := numV_range (gb1 hbf); omega) (by omega))) fun a F => la F rfl (x_buildS (cells := #[.string (strOfNums ((gf dl 0).2)), .int .i64 (numV (gf dl 1).2), .slice none 0 0]) (places := #[(0, 1), (1, 1), (2, 1)]) Tryz.underlying43 ty43 (by kernel_rfl) (by simp only [bM, F.t 54 rfl, F.t 56 rfl] <;> rfl) rfl) fun a F => ?_
 refine lp rfl ?_
 refine w_alloc 8 F H rfl ty43 ?_
 clear F H; intro a w b8 F H
 refine lp rfl ?_
 refine w_storeA 8 H ty43 rfl (F.t 8 rfl) (F.t 57 rfl) rfl (by simp [Value.cells, Value.oneCell']) rfl ?_
 clear H; intro w H
 refine wn (hK15 _ _ ?_)
 refine wp_seq_k fun _ hK16 => ?_
 refine sr fun _ hK17 => ?_
 have H := H.row0 61 OpdE 93
 refine la F rfl (x_assign rfl) fun a F => wn (hK17 _ _ (wp_block ?_))
 refine wp_loop_ghost (fun n_ a w => ∃ k : Nat, ∃ Ao : Option Addr, ∃ co : Nat, ∃ os : List OpD, ∃ oko : Nat → Prop, n_ = dl.length - k ∧ (2 ≤ k) ∧ (k ≤ dl.length) ∧ (QInv dl k os) ∧ (∀ o ∈ os, OpB o) ∧ (os.length ≤ k) ∧ (∀ kb, oko kb → w0.heap.size ≤ kb) ∧ Fr 98 a [(0, .slice A bs.length c), (2, .pointer (some ⟨b2, 0, none⟩)), (4, .slice Ar24 dl.length cr24), (8, .pointer (some ⟨b8, 0, none⟩)), (9, .int .i64 (k : Int))] ∧ Hp (fun _ => False) w0 w [(901, .rd_ (.int .u8) A bs c (fun k => k < w0.heap.size)), (2, .blk b2 (.cells #[.string (strOfNums []), .int .i64 0, .slice none 0 0] 43 (0, 0))), (24, .rd_ FE Ar24 dl cr24 (fun kb => okr24 kb ∨ (Value.slice Ar24 dl.length cr24).ownBlock = some kb)), (2001, .rd_ (.int .u8) (fA2) (gf dl 1).2 fc2 (fun kb => okr24 kb ∨ (Value.slice Ar24 dl.length cr24).ownBlock = some kb)), (2499, .cels (adr Ar24 (Int.toNat 1 * 2)) #[.int .i64 (gf dl 1).1, .slice fA2 (gf dl 1).2.length fc2]), (2500, .cel (adr Ar24 (Int.toNat 1 * 2)) (.int .i64 (gf dl 1).1)), (2501, .cel (adr Ar24 (Int.toNat 1 * 2 + 1)) (.slice fA2 (gf dl 1).2.length fc2)), (1001, .rd_ (.int .u8) (fA1) (gf dl 0).2 fc1 (fun kb => okr24 kb ∨ (Value.slice Ar24 dl.length cr24).ownBlock = some kb)), (1499, .cels (adr Ar24 (Int.toNat 0 * 2)) #[.int .i64 (gf dl 0).1, .slice fA1 (gf dl 0).2.length fc1]), (1500, .cel (adr Ar24 (Int.toNat 0 * 2)) (.int .i64 (gf dl 0).1)), (1501, .cel (adr Ar24 (Int.toNat 0 * 2 + 1)) (.slice fA1 (gf dl 0).2.length fc1)), (8, .blk b8 (.cells #[.string (strOfNums (gf dl 0).2), .int .i64 (numV (gf dl 1).2), .slice Ao os.length co] 43 (0, 0))), (61, .row OpdE 93 (.slice Ao os.length co) os oko)]) (dl.length - 2) ?_ ?_
 ·exact ⟨2, none, 0, [], (fun _ => False), rfl, by omega, by omega, QInv.start2 dl, (fun o ho => by cases ho), by simp, (fun kb h => h.elim), (((((F.bare.add F 9 rfl).add F 8 rfl).add F 4 rfl).add F 2 rfl).add F 0 rfl), H.sub _ (sub_cons (sub_cons (sub_cons (sub_cons (sub_cons (sub_cons (sub_cons (sub_cons (sub_cons (sub_cons (sub_cons (sub_cons (sub_cons (sub_nil _) 61 rfl) 8 rfl) 1501 rfl) 1500 rfl) 1499 rfl) 1001 rfl) 2501 rfl) 2500 rfl) 2499 rfl) 2001 rfl) 24 rfl) 2 rfl) 901 rfl)⟩
 rintro _ a w ⟨k, Ao, co, os, oko, rfl, hq0_0, hq0_1, hq0_2, hq0_3, hq0_4, hq0_5, F, H⟩
 refine wp_seq_k fun _ hK18 => ?_
 refine sr fun _ hK19 => la F rfl (x_move (F.t 9 rfl)) fun a F => la F rfl (x_move (F.t 4 rfl)) fun a F => la F rfl (x_len_slice Tryz.underlying60 (F.t 59 rfl)) fun a F => la F rfl (x_lss (F.t 58 rfl) (F.t 60 rfl)) fun a F => wn (hK19 _ _ ?_)
 refine wp_cond_split (F.t 61 rfl) (fun hc61 => ?_) (fun hc61 => ?_)
 ·have hk61_7 := hc61; try simp only [bL] at hc61
  refine wp_skip (hK18 _ _ ?_)
  refine wp_seq_k fun _ hK20 => ?_
  refine wp_block (sr fun _ hK21 => ?_)
  obtain ⟨fA4, fc4, hfr4, hf4_0, hf4_1, hfw4⟩ := Rd.fld ((H.rd 24 rfl)) (gf_some (xs := dl) (i := (k : Int)) (by omega) (by omega))
  have H := H.subrd 24 rfl 4001 hfr4 (fun _ h => h)
  have H := H.subcels 24 rfl 4499 hfw4 (Rd.inok ((H.rd 24 rfl)) (by omega) _)
  have H := H.subcel 24 rfl 4500 hf4_0 (Rd.inok ((H.rd 24 rfl)) (by omega) _)
  have H := H.subcel 24 rfl 4501 hf4_1 (Rd.inok ((H.rd 24 rfl)) (by omega) _)
  have hmk := gf_in (xs := dl) (i := (k : Int)) (by omega) (by omega)
  refine la F rfl (x_move (F.t 4 rfl)) fun a F => la F rfl (x_move (F.t 9 rfl)) fun a F => la F rfl (x_iaddr_A Tryz.underlying60 ty57 ((H.rd 24 rfl)) (F.t 65 rfl) (F.t 66 rfl) (by omega) (by omega) _) fun a F => la F rfl (x_faddrA ((H.rd 24 rfl)) (by omega) _ Tryz.underlying57 rfl ty27 (by decide) (F.t 67 rfl) rfl) fun a F => la F rfl (x_load1 ty27 (F.t 68 rfl) (H.holds 4501 _ rfl)) fun a F => ?_
  refine lp rfl ?_
  refine w_call F (x_enter Tryz.func57 (by kernel_rfl) rfl (by simp only [bM, F.t 69 rfl] <;> rfl)) (rread_calls _ ((H.rd 4001 rfl)) (hbf _ hmk)) rfl rfl ?_
  rintro _ w ⟨o, Ad, cd, ob, rfl, hm_, hr_, hO_⟩; refine ⟨_, rfl, ?_⟩; clear F; intro a F; have H := Hp.rowOut H 70 hm_ hr_
  refine la F rfl (x_move (F.t 70 rfl)) fun a F => la F rfl (x_extract (F.t 64 rfl) rfl) fun a F => la F rfl (x_extract (F.t 64 rfl) rfl) fun a F => ?_
  refine lp rfl ?_
  refine w_alloc 10 F H rfl ty93 ?_
  clear F H; intro a w b10 F H
  refine lp rfl ?_
  refine w_storeA 10 H ty93 rfl (F.t 10 rfl) (F.t 71 rfl) rfl (by simp [Value.cells, Value.oneCell']) rfl ?_
  clear H; intro w H
  refine la F rfl (x_assign (F.t 72 rfl)) fun a F => wn (hK21 _ _ ?_)
  refine wp_seq_k fun _ hK22 => ?_
  refine sr fun _ hK23 => la F rfl (x_move (F.t 11 rfl)) fun a F => la F rfl (x_not (F.t 73 rfl)) fun a F => wn (hK23 _ _ ?_)
  refine wp_cond_split (F.t 74 rfl) (fun hc74 => ?_) (fun hc74 => ?_)
  ·have hk74_8 := hc74; try simp only [bL] at hc74
   have hz : NoQ bs := noQ_op2 hdec hc61 hq0_0 hO_ (by simpa using hc74)
   refine sr fun _ hK24 => la F rfl (x_buildS (cells := #[.string (strOfNums []), .int .i64 0, .slice none 0 0]) (places := #[(0, 1), (1, 1), (2, 1)]) Tryz.underlying43 ty43 (by kernel_rfl) Array.map_empty rfl) fun a F => ?_
   refine lp rfl ?_
   refine w_storeA 2 H ty43 rfl (F.t 2 rfl) (F.t 75 rfl) rfl (by simp [Value.cells, Value.oneCell']) rfl ?_
   clear H; intro w H
   refine la F rfl (x_assign rfl) fun a F => wn (hK24 _ _ ?_)
   refine wp_ret ?_
   try simp only [Exit.then, Exit.inBlock]
   exact fin_ret F (resct F rfl rfl rfl (H.at 2 rfl) ty43 rfl) ⟨zR, none, 0, (fun _ => False), 221, rfl, H.mods, Rd.nil _ _ _, (fun k h => h.elim), DecQ.no hz⟩
  have hk74_9 := hc74; try simp only [bL] at hc74
  obtain rfl : ob = true := by simpa using hc74
  refine wp_skip (hK22 _ _ ?_)
  refine wp_region_lit ?_
  have hfr70 : ∀ kb, (Value.slice Ad o.timer.steps.length cd).ownBlock = some kb → w0.heap.size ≤ kb := fun kb h => (H.mine 70 _ rfl kb h).resolve_left (fun h => h)
  have H := H.freeze 70 rfl (fun kb => (Value.slice Ad o.timer.steps.length cd).ownBlock = some kb) (fun kb => ⟨fun h => .inr h, fun h => h.resolve_left id⟩)
  refine la F rfl (x_faddr Tryz.underlying43 rfl ty37 (by decide) (F.t 8 rfl) rfl) fun a F => la F rfl (x_load1 ty37 (F.t 76 rfl) (blk_cell (H.at 8 rfl) 2 rfl)) fun a F => la F rfl (x_loadn ty93 (F.t 10 rfl) rfl (blk_whole (H.at 10 rfl))) fun a F => ?_
  refine lp rfl ?_
  refine w_lit1 79 OpdE o #[.int .i64 o.kind, .string (strOfNums o.key), .int .i64 o.step.1, .string (strOfNums o.step.2.1), .string (strOfNums o.step.2.2.1), .int .i64 o.step.2.2.2, .string (strOfNums o.timer.name), .int .i64 o.timer.ver, .int .u64 o.timer.tick, .int .u64 o.timer.every, .slice Ad o.timer.steps.length cd] (fun kb => (Value.slice Ad o.timer.steps.length cd).ownBlock = some kb) F H rfl Tryz.underlying37 ty93 (by simp only [bM, F.t 78 rfl] <;> rfl) (by decide) (by kernel_rfl) (opd_mk o ((H.rd 70 rfl))) (fun kb hk => ⟨70, _, rfl, hk⟩) ?_
  clear F H; intro a w b79 F hb79_ H
  refine lp rfl ?_
  refine w_append 61 79 (xs := os) (ys := ([o])) F H rfl Tryz.underlying37 ty93 rfl rfl rfl rfl ((H.rd 79 rfl)) oI (F.t 77 rfl) (F.t 79 rfl) (by simp only [lN] at *; omega) (by simp only [lN, maxLen] at *; omega) (fun kb => oko kb ∨ (fun kb => (fun kb => (Value.slice Ad o.timer.steps.length cd).ownBlock = some kb) kb ∨ kb = b79) kb) (fun w' v' h => h) (by rintro k_ (hk_ | hk_); exact .inl hk_; exact .inr hk_) ?_
  clear F H; intro a w v80 F H
  obtain ⟨A80, c80, rfl⟩ := (H.row 61 rfl).form
  refine la F rfl (x_faddr Tryz.underlying43 rfl ty37 (by decide) (F.t 8 rfl) rfl) fun a F => ?_
  refine lp rfl ?_
  refine w_store 8 H ty37 rfl (F.t 81 rfl) (F.t 80 rfl) rfl (one1 rfl rfl) (by first | decide | exact Nat.le_of_ble_eq_true rfl) ?_
  clear H; intro w H
  refine wn (hK20 _ _ ?_)
  refine wp_region_lit ?_
  refine la F rfl (x_move (F.t 9 rfl)) fun a F => la F rfl (x_add (F.t 62 rfl) rfl (w64 (by omega) (by omega))) fun a F => la F rfl (x_assign (F.t 63 rfl)) fun a F => ?_
  refine wpList_nil ?_
  exact ⟨_, by omega, ⟨k + 1, A80, c80, (os ++ [o]), (fun kb => oko kb ∨ (fun kb => (fun kb => (Value.slice Ad o.timer.steps.length cd).ownBlock = some kb) kb ∨ kb = b79) kb), rfl, by omega, by omega, hq0_2.op2 hc61 hq0_0 hO_, (fun x hx => by rcases List.mem_append.1 hx with hx | hx; exact hq0_3 x hx; rw [List.mem_singleton.1 hx]; exact hO_.1), (by simp only [lN]; omega), (fun kb h => by rcases h with h | h | rfl; exact hq0_5 kb h; exact hfr70 kb h; exact hb79_.resolve_left id), (((((F.bare.add F 9 rfl).add F 8 rfl).add F 4 rfl).add F 2 rfl).add F 0 rfl), H.sub _ (sub_cons (sub_cons (sub_cons (sub_cons (sub_cons (sub_cons (sub_cons (sub_cons (sub_cons (sub_cons (sub_cons (sub_cons (sub_cons (sub_nil _) 61 rfl) 8 rfl) 1501 rfl) 1500 rfl) 1499 rfl) 1001 rfl) 2501 rfl) 2500 rfl) 2499 rfl) 2001 rfl) 24 rfl) 2 rfl) 901 rfl)⟩⟩
 have hk61_10 := hc61; try simp only [bL] at hc61
 obtain rfl : k = dl.length := by omega
 have hMB : SReqB (rzQ dl os) := ⟨gb0 hbf, (by have := numV_range (gb1 hbf); exact ⟨by show (_ : Int) ≤ numV _; omega, by show numV _ < (_ : Int); omega⟩), hq0_3⟩
 refine wp_exit ?_
 refine hK16 _ _ (sr fun _ hK25 => la F rfl (x_loadn ty43 (F.t 8 rfl) rfl (blk_whole (H.at 8 rfl))) fun a F => ?_)
 refine lp rfl ?_
 refine w_call F (x_enter Tryz.func17 (by kernel_rfl) rfl (by simp only [bM, F.t 83 rfl] <;> rfl)) (rencQ_calls (r := (rzQ dl os)) _ (Row.rd (ok' := fun k_ => oko k_ ∨ (.slice Ao os.length co : Value).ownBlock = some k_) (H.row 61 rfl) (fun _ hk_ _ => .inl hk_) (fun _ hk_ => .inr hk_)) hMB) rfl rfl ?_
 rintro _ w ⟨vr85, rfl, hm_, hr_⟩; refine ⟨_, rfl, ?_⟩; clear F; intro a F; have H := Hp.rowOut H 85 hm_ hr_; obtain ⟨Ar85, cr85, rfl⟩ := (H.row 85 rfl).form
 refine la F rfl (x_move (F.t 84 rfl)) fun a F => la F rfl (x_extract (F.t 82 rfl) rfl) fun a F => la F rfl (x_extract (F.t 82 rfl) rfl) fun a F => la F rfl (x_assign (F.t 85 rfl)) fun a F => la F rfl (x_assign (F.t 86 rfl)) fun a F => wn (hK25 _ _ ?_)
 refine wp_seq_k fun _ hK26 => ?_
 refine sr fun _ hK27 => la F rfl (x_move (F.t 13 rfl)) fun a F => la F rfl (x_neq (F.t 87 rfl) rfl) fun a F => la F rfl (x_move (F.t 88 rfl)) fun a F => ?_
 refine split_bool F 89 rfl (fun hb89 => ?_) (fun hb89 => ?_)
 ·have hc89 := hb89; try simp only [bL] at hc89
  have hz : NoQ bs := noQ_rend hdec hq0_2 (fun h => hc89 h.1)
  refine los F hb89 rfl fun a F => los F hb89 rfl fun a F => los F hb89 rfl fun a F => los F hb89 rfl fun a F => los F hb89 rfl fun a F => la F rfl (x_pickT (F.t 89 rfl) hb89 rfl) fun a F => wn (hK27 _ _ ?_)
  refine wp_cond_true (F.t 95 rfl) ?_
  refine sr fun _ hK28 => la F rfl (x_buildS (cells := #[.string (strOfNums []), .int .i64 0, .slice none 0 0]) (places := #[(0, 1), (1, 1), (2, 1)]) Tryz.underlying43 ty43 (by kernel_rfl) Array.map_empty rfl) fun a F => ?_
  refine lp rfl ?_
  refine w_storeA 2 H ty43 rfl (F.t 2 rfl) (F.t 96 rfl) rfl (by simp [Value.cells, Value.oneCell']) rfl ?_
  clear H; intro w H
  refine la F rfl (x_assign rfl) fun a F => wn (hK28 _ _ ?_)
  refine wp_ret ?_
  try simp only [Exit.then, Exit.inBlock]
  exact fin_ret F (resct F rfl rfl rfl (H.at 2 rfl) ty43 rfl) ⟨zR, none, 0, (fun _ => False), 221, rfl, H.mods, Rd.nil _ _ _, (fun k h => h.elim), DecQ.no hz⟩
 have hc89 := hb89; try simp only [bL] at hc89
 refine lgs F hb89 rfl (x_move (F.t 12 rfl)) fun a F => lgs F hb89 rfl (x_b2s Tryz.underlying27 Tryz.underlying5 Tryz.underlying9 (Row.rd (ok' := fun k_ => (fun _ => False) k_ ∨ (.slice Ar85 (encQ (rzQ dl os)).length cr85 : Value).ownBlock = some k_) (H.row 85 rfl) (fun _ hk_ _ => .inl hk_) (fun _ hk_ => .inr hk_)) (F.t 90 rfl)) fun a F => lgs F hb89 rfl (x_move (F.t 0 rfl)) fun a F => lgs F hb89 rfl (x_b2s Tryz.underlying27 Tryz.underlying5 Tryz.underlying9 ((H.rd 901 rfl)) (F.t 92 rfl)) fun a F => lgs F hb89 rfl (x_nen (xs := (encQ (rzQ dl os))) (ys := bs) (F.t 91 rfl) (F.t 93 rfl) (encQ_byte hMB) hby) fun a F => la F rfl (x_pickF (F.t 89 rfl) hb89 (F.t 94 rfl)) fun a F => wn (hK27 _ _ ?_)
 refine wp_cond_split (F.t 95 rfl) (fun hc95 => ?_) (fun hc95 => ?_)
 ·have hk95_11 := hc95; try simp only [bL] at hc95
  have hz : NoQ bs := noQ_rend hdec hq0_2 (fun h => hc95 h.2)
  refine sr fun _ hK29 => la F rfl (x_buildS (cells := #[.string (strOfNums []), .int .i64 0, .slice none 0 0]) (places := #[(0, 1), (1, 1), (2, 1)]) Tryz.underlying43 ty43 (by kernel_rfl) Array.map_empty rfl) fun a F => ?_
  refine lp rfl ?_
  refine w_storeA 2 H ty43 rfl (F.t 2 rfl) (F.t 96 rfl) rfl (by simp [Value.cells, Value.oneCell']) rfl ?_
  clear H; intro w H
  refine la F rfl (x_assign rfl) fun a F => wn (hK29 _ _ ?_)
  refine wp_ret ?_
  try simp only [Exit.then, Exit.inBlock]
  exact fin_ret F (resct F rfl rfl rfl (H.at 2 rfl) ty43 rfl) ⟨zR, none, 0, (fun _ => False), 221, rfl, H.mods, Rd.nil _ _ _, (fun k h => h.elim), DecQ.no hz⟩
 have hk95_12 := hc95; try simp only [bL] at hc95
 refine wp_skip (hK26 _ _ (sr fun _ hK30 => la F rfl (x_loadn ty43 (F.t 8 rfl) rfl (blk_whole (H.at 8 rfl))) fun a F => ?_))
 refine lp rfl ?_
 refine w_storeA 2 H ty43 rfl (F.t 2 rfl) (F.t 97 rfl) rfl (by simp [Value.cells, Value.oneCell']) rfl ?_
 clear H; intro w H
 refine la F rfl (x_assign rfl) fun a F => wn (hK30 _ _ ?_)
 refine wp_ret ?_
 try simp only [Exit.then, Exit.inBlock]
 have hE : encQE (rzQ dl os) = 0 := by first | exact hc95 | exact hc89 | exact hc61 | exact hc48 | exact hc45 | exact hc33 | exact hc29 | exact hc16
 have hX : encQ (rzQ dl os) = bs := by first | exact hc95 | exact hc89 | exact hc61 | exact hc48 | exact hc45 | exact hc33 | exact hc29 | exact hc16
 exact fin_ret F (resct F rfl rfl rfl (H.at 2 rfl) ty43 rfl) ⟨(rzQ dl os), Ao, co, (fun k => oko k ∨ (Value.slice Ao os.length co).ownBlock = some k), 0, rfl, H.mods, Row.rd (H.row 61 rfl) (fun k h _ => .inl h) (fun k h => .inr h), (fun k h => by rcases h with h | h; exact ⟨hq0_5 k h, H.inb 61 _ rfl k (.inr h)⟩; exact ⟨(H.mine 61 _ rfl k h).resolve_left id, H.inb 61 _ rfl k (.inl h)⟩), ⟨hMB, .inl ⟨rfl, encQE0 hE, hX⟩⟩⟩
end Go.Proofs.YtiiklnghnifmjaaGreatDoor.Act
