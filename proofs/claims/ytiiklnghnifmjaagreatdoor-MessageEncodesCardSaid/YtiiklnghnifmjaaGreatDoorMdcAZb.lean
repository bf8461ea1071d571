/- A message's bytes decoded, walked. -/
import Derived.Test.YtiiklnghnifmjaaGreatDoorDecAZb
import Derived.Test.YtiiklnghnifmjaaGreatDoorMsgAZb
import Derived.Test.YtiiklnghnifmjaaGreatDoorMdcDZb
set_option linter.unusedVariables false
set_option maxRecDepth 100000
set_option maxHeartbeats 1000000
set_option linter.unusedSimpArgs false
namespace Go.Proofs.YtiiklnghnifmjaaGreatDoor.Act
open Go.RowKit Go.Proofs.YtiiklnghnifmjaaGreatDoor.Sx Go.Proofs.YtiiklnghnifmjaaGreatDoor.Cod Go.Proofs.YtiiklnghnifmjaaGreatDoor.Num
theorem decB_calls (w0 : World) {ok : Nat → Prop} {A : Option Addr} {bs : List Int} {c : Nat} (hr : Rd (.int .u8) w0 ok A (bodyM bs) c) (hby : Byte (bodyM bs)) : Calls Tryz.prog 36 #[.slice A (bodyM bs).length c] w0 fun e w' => ∃ v, e = .returned (.tuple #[v, .int .i64 (if (decR (bodyM bs)).isSome then 0 else 12)]) ∧ Mods (fun _ => False) w0 w' ∧ RowNew FE 57 w0 w' v ((decR (bodyM bs)).getD []) := dec_calls w0 hr hby
theorem decM_calls (w0 : World) (hL : LibAt true w0) {ok : Nat → Prop} {A : Option Addr} {bs : List Int} {c : Nat} (hrb : Rd (.int .u8) w0 ok A bs c) (hby : Byte bs) : Calls Tryz.prog 9 #[.slice A bs.length c] w0 fun e w' => ∃ (m : MessageD) (An : Option Addr) (cn : Nat) (Ac : Option Addr) (cc : Nat) (okm : Nat → Prop) (g : Int), e = .returned (.tuple #[.agg #[.int .i64 m.kind, .int .i64 m.src, .int .i64 m.dst, .int .i64 m.tx, .slice An m.nodes.length cn, .slice Ac m.changes.length cc], .int .i64 g]) ∧ Mods (fun _ => False) w0 w' ∧ Rd (.int .i64) w' okm An m.nodes cn ∧ Rd ChgE w' okm Ac m.changes cc ∧ (∀ k, okm k → w0.heap.size ≤ k ∧ k < w'.heap.size) ∧ DecM bs m g := by
 refine cow Tryz.func9 rfl Tryz.ntmps9 (Nat.le_of_ble_eq_true rfl) fun a F => ?_
 have H := Hp.nil (fun _ => False) w0
 have H := H.arg 901 hrb.all (fun _ h => ⟨h, fun h => h⟩)
 have hleb := hrb.le; unfold maxLen at hleb
 have H := H.libN 990 hL
 refine sr fun _ hK1 => ?_
 refine lp rfl ?_
 refine w_alloc 2 F H rfl ty26 ?_
 clear F H; intro a w b2 F H
 refine la F rfl (x_assign rfl) fun a F => ?_
 refine wn (hK1 _ _ ?_)
 refine sr fun _ hK2 => ?_
 refine la F rfl (x_move (F.t 0 rfl)) fun a F => ?_
 refine la F rfl (x_move (F.t 0 rfl)) fun a F => ?_
 refine la F rfl (x_len_slice Tryz.underlying27 (F.t 23 rfl)) fun a F => ?_
 refine la F rfl (x_sub (F.t 24 rfl) rfl (w64 (by omega) (by omega))) fun a F => ?_
 refine la F rfl (x_max2 (F.t 25 rfl) rfl) fun a F => ?_
 refine la F rfl (x_slice_h Tryz.underlying27 ty5 (F.t 22 rfl) (F.t 26 rfl) (by unfold mx; split <;> omega) (by unfold mx; split <;> omega) ((H.rd 901 rfl)).1) fun a F => ?_
 refine lp rfl ?_
 refine w_call F (x_enter Tryz.func36 (by kernel_rfl) rfl (by simp only [bM, F.t 27 rfl] <;> rfl)) (decB_calls (bs := bs) _ ((Rd.take ((H.rd 901 rfl)) ((mx ((bs.length : Int) - 4) 0).toNat))) ((hby : Byte _).take _)) rfl rfl ?_
 rintro _ w ⟨vr21, rfl, hm_, okr21, hr_, hf_, ho21_⟩; refine ⟨_, rfl, ?_⟩; clear F; intro a F; have H := H.newRow 21 hm_ hr_ hf_ ho21_; obtain ⟨Ar21, cr21, rfl⟩ := (H.row 21 rfl).form
 refine la F rfl (x_move (F.t 28 rfl)) fun a F => ?_
 refine la F rfl (x_extract (F.t 21 rfl) rfl) fun a F => ?_
 refine la F rfl (x_extract (F.t 21 rfl) rfl) fun a F => ?_
 refine la F rfl (x_assign (F.t 29 rfl)) fun a F => ?_
 refine la F rfl (x_assign (F.t 30 rfl)) fun a F => ?_
 obtain ⟨dl, hdl⟩ : ∃ dl, dl = (decR (bodyM bs)).getD [] := ⟨_, rfl⟩
 rw [← hdl] at F H
 have hsh : short dl = true := by rw [hdl]; exact dl_short ((hby : Byte _).take _)
 have hbf : ∀ f ∈ dl, Byte f.2 := by rw [hdl]; exact dl_byte ((hby : Byte _).take _)
 have H := H.freeze 21 rfl (fun kb => okr21 kb ∨ (Value.slice Ar21 dl.length cr21).ownBlock = some kb) (fun kb => Iff.rfl)
 refine wn (hK2 _ _ ?_)
 refine sr fun _ hK3 => ?_
 refine la F rfl (x_move (F.t 4 rfl)) fun a F => ?_
 refine lp rfl ?_
 refine w_call F (x_enter Tryz.func37 (by kernel_rfl) rfl (by simp only [bM, F.t 32 rfl] <;> rfl)) (dfind_calls _ 1 ((H.rd 21 rfl)) hsh) rfl rfl ?_
 rintro _ w ⟨vr33, rfl, hm_, hr_⟩; refine ⟨_, rfl, ?_⟩; clear F; intro a F; have H := Hp.rowOut H 33 hm_ hr_; obtain ⟨Ar33, cr33, rfl⟩ := (H.row 33 rfl).form
 refine la F rfl (x_move (F.t 33 rfl)) fun a F => ?_
 refine la F rfl (x_extract (F.t 31 rfl) rfl) fun a F => ?_
 refine la F rfl (x_extract (F.t 31 rfl) rfl) fun a F => ?_
 refine la F rfl (x_assign (F.t 34 rfl)) fun a F => ?_
 have H := H.freeze 33 rfl (fun kb => (Value.slice Ar33 (fnd dl 1).length cr33).ownBlock = some kb) (fun kb => ⟨fun h => .inr h, fun h => h.resolve_left id⟩)
 refine la F rfl (x_assign (F.t 35 rfl)) fun a F => ?_
 refine wn (hK3 _ _ ?_)
 refine sr fun _ hK4 => ?_
 refine la F rfl (x_move (F.t 4 rfl)) fun a F => ?_
 refine lp rfl ?_
 refine w_call F (x_enter Tryz.func37 (by kernel_rfl) rfl (by simp only [bM, F.t 37 rfl] <;> rfl)) (dfind_calls _ 2 ((H.rd 21 rfl)) hsh) rfl rfl ?_
 rintro _ w ⟨vr38, rfl, hm_, hr_⟩; refine ⟨_, rfl, ?_⟩; clear F; intro a F; have H := Hp.rowOut H 38 hm_ hr_; obtain ⟨Ar38, cr38, rfl⟩ := (H.row 38 rfl).form
 refine la F rfl (x_move (F.t 38 rfl)) fun a F => ?_
 refine la F rfl (x_extract (F.t 36 rfl) rfl) fun a F => ?_
 refine la F rfl (x_extract (F.t 36 rfl) rfl) fun a F => ?_
 refine la F rfl (x_assign (F.t 39 rfl)) fun a F => ?_
 refine la F rfl (x_assign (F.t 40 rfl)) fun a F => ?_
 refine wn (hK4 _ _ ?_)
 refine sr fun _ hK5 => ?_
 refine la F rfl (x_move (F.t 8 rfl)) fun a F => ?_
 refine lp rfl ?_
 refine w_call F (x_enter Tryz.func38 (by kernel_rfl) rfl (by simp only [bM, F.t 42 rfl] <;> rfl)) (num_calls _ (Row.rd (ok' := fun k_ => (fun _ => False) k_ ∨ (.slice Ar38 (fnd dl 2).length cr38 : Value).ownBlock = some k_) (H.row 38 rfl) (fun _ hk_ _ => .inl hk_) (fun _ hk_ => .inr hk_)) (fnd_byte hbf 2)) rfl rfl ?_
 rintro _ w ⟨rfl, hm_⟩; refine ⟨_, rfl, ?_⟩; clear F; intro a F; have H := H.same hm_
 refine la F rfl (x_move (F.t 43 rfl)) fun a F => ?_
 refine la F rfl (x_extract (F.t 41 rfl) rfl) fun a F => ?_
 refine la F rfl (x_extract (F.t 41 rfl) rfl) fun a F => ?_
 refine la F rfl (x_assign (F.t 44 rfl)) fun a F => ?_
 refine la F rfl (x_assign (F.t 45 rfl)) fun a F => ?_
 refine wn (hK5 _ _ ?_)
 refine wp_seq_k fun _ hK6 => ?_
 refine sr fun _ hK7 => ?_
 refine la F rfl (x_move (F.t 5 rfl)) fun a F => ?_
 refine la F rfl (x_neq (F.t 46 rfl) rfl) fun a F => ?_
 refine la F rfl (x_move (F.t 47 rfl)) fun a F => ?_
 refine split_bool F 48 rfl (fun hb48 => ?_) (fun hb48 => ?_)
 ·have hc48 := hb48; try simp only [bL] at hc48
  have hz : NoM bs := noM_none (by cases hd : decR (bodyM bs) with | none => rfl | some l => rw [hd] at hc48; exact absurd rfl hc48)
  refine los F hb48 rfl fun a F => ?_
  refine los F hb48 rfl fun a F => ?_
  refine los F hb48 rfl fun a F => ?_
  refine la F rfl (x_pickT (F.t 48 rfl) hb48 rfl) fun a F => ?_
  refine la F rfl (x_move (F.t 52 rfl)) fun a F => ?_
  refine lo F rfl fun a F => ?_
  refine lo F rfl fun a F => ?_
  refine la F rfl (x_pickT (F.t 53 rfl) rfl rfl) fun a F => ?_
  refine la F rfl (x_move (F.t 56 rfl)) fun a F => ?_
  refine lo F rfl fun a F => ?_
  refine lo F rfl fun a F => ?_
  refine la F rfl (x_pickT (F.t 57 rfl) rfl rfl) fun a F => ?_
  refine wn (hK7 _ _ ?_)
  refine wp_cond_true (F.t 60 rfl) ?_
  refine sr fun _ hK8 => ?_
  refine la F rfl (x_buildS (cells := #[.int .i64 0, .int .i64 0, .int .i64 0, .int .i64 0, .slice none 0 0, .slice none 0 0]) (places := #[(0, 1), (1, 1), (2, 1), (3, 1), (4, 1), (5, 1)]) Tryz.underlying26 ty26 (by kernel_rfl) Array.map_empty rfl) fun a F => ?_
  refine lp rfl ?_
  refine w_storeA 2 H ty26 rfl (F.t 2 rfl) (F.t 61 rfl) rfl (by simp [Value.cells, Value.oneCell']) rfl ?_
  clear H; intro w H
  refine la F rfl (x_assign rfl) fun a F => ?_
  refine wn (hK8 _ _ ?_)
  refine wp_ret ?_
  try simp only [Exit.then, Exit.inBlock]
  exact fin_ret F (resct F rfl rfl rfl (H.at 2 rfl) ty26 rfl) ⟨⟨0, 0, 0, 0, [], []⟩, none, 0, none, 0, (fun _ => False), 161, rfl, H.mods, Rd.nil _ _ _, Rd.nil _ _ _, (fun k h => h.elim), DecM.no hz⟩
 have hc48 := hb48; try simp only [bL] at hc48
 have hdec : decR (bodyM bs) = some dl := by rw [hdl]; cases hd : decR (bodyM bs) with | some l => rfl | none => rw [hd] at hc48; exact absurd hc48 (by decide)
 have hfew := dl_few ((hby : Byte _).take _) hdec
 refine lgs F hb48 rfl (x_move (F.t 6 rfl)) fun a F => ?_
 refine lgs F hb48 rfl (x_len_slice Tryz.underlying27 (F.t 49 rfl)) fun a F => ?_
 refine lgs F hb48 rfl (x_neq (F.t 50 rfl) rfl) fun a F => ?_
 refine la F rfl (x_pickF (F.t 48 rfl) hb48 (F.t 51 rfl)) fun a F => ?_
 refine la F rfl (x_move (F.t 52 rfl)) fun a F => ?_
 refine split_bool F 53 rfl (fun hb53 => ?_) (fun hb53 => ?_)
 ·have hc53 := hb53; try simp only [bL] at hc53
  have hz : NoM bs := noM_head hdec (fun h => hc53 h.1)
  refine los F hb53 rfl fun a F => ?_
  refine los F hb53 rfl fun a F => ?_
  refine la F rfl (x_pickT (F.t 53 rfl) hb53 rfl) fun a F => ?_
  refine la F rfl (x_move (F.t 56 rfl)) fun a F => ?_
  refine lo F rfl fun a F => ?_
  refine lo F rfl fun a F => ?_
  refine la F rfl (x_pickT (F.t 57 rfl) rfl rfl) fun a F => ?_
  refine wn (hK7 _ _ ?_)
  refine wp_cond_true (F.t 60 rfl) ?_
  refine sr fun _ hK9 => ?_
  refine la F rfl (x_buildS (cells := #[.int .i64 0, .int .i64 0, .int .i64 0, .int .i64 0, .slice none 0 0, .slice none 0 0]) (places := #[(0, 1), (1, 1), (2, 1), (3, 1), (4, 1), (5, 1)]) Tryz.underlying26 ty26 (by kernel_rfl) Array.map_empty rfl) fun a F => ?_
  refine lp rfl ?_
  refine w_storeA 2 H ty26 rfl (F.t 2 rfl) (F.t 61 rfl) rfl (by simp [Value.cells, Value.oneCell']) rfl ?_
  clear H; intro w H
  refine la F rfl (x_assign rfl) fun a F => ?_
  refine wn (hK9 _ _ ?_)
  refine wp_ret ?_
  try simp only [Exit.then, Exit.inBlock]
  exact fin_ret F (resct F rfl rfl rfl (H.at 2 rfl) ty26 rfl) ⟨⟨0, 0, 0, 0, [], []⟩, none, 0, none, 0, (fun _ => False), 161, rfl, H.mods, Rd.nil _ _ _, Rd.nil _ _ _, (fun k h => h.elim), DecM.no hz⟩
 have hc53 := hb53; try simp only [bL] at hc53
 have hl1 : ((fnd dl 1).length : Int) = 3 := hc53
 refine lgs F hb53 rfl (x_move (F.t 11 rfl)) fun a F => ?_
 refine lgs F hb53 rfl (x_not (F.t 54 rfl)) fun a F => ?_
 refine la F rfl (x_pickF (F.t 53 rfl) hb53 (F.t 55 rfl)) fun a F => ?_
 refine la F rfl (x_move (F.t 56 rfl)) fun a F => ?_
 refine split_bool F 57 rfl (fun hb57 => ?_) (fun hb57 => ?_)
 ·have hc57 := hb57; try simp only [bL] at hc57
  have hz : NoM bs := noM_head hdec (fun h => by rw [h.2.1] at hc57; exact absurd hc57 (by decide))
  refine los F hb57 rfl fun a F => ?_
  refine los F hb57 rfl fun a F => ?_
  refine la F rfl (x_pickT (F.t 57 rfl) hb57 rfl) fun a F => ?_
  refine wn (hK7 _ _ ?_)
  refine wp_cond_true (F.t 60 rfl) ?_
  refine sr fun _ hK10 => ?_
  refine la F rfl (x_buildS (cells := #[.int .i64 0, .int .i64 0, .int .i64 0, .int .i64 0, .slice none 0 0, .slice none 0 0]) (places := #[(0, 1), (1, 1), (2, 1), (3, 1), (4, 1), (5, 1)]) Tryz.underlying26 ty26 (by kernel_rfl) Array.map_empty rfl) fun a F => ?_
  refine lp rfl ?_
  refine w_storeA 2 H ty26 rfl (F.t 2 rfl) (F.t 61 rfl) rfl (by simp [Value.cells, Value.oneCell']) rfl ?_
  clear H; intro w H
  refine la F rfl (x_assign rfl) fun a F => ?_
  refine wn (hK10 _ _ ?_)
  refine wp_ret ?_
  try simp only [Exit.then, Exit.inBlock]
  exact fin_ret F (resct F rfl rfl rfl (H.at 2 rfl) ty26 rfl) ⟨⟨0, 0, 0, 0, [], []⟩, none, 0, none, 0, (fun _ => False), 161, rfl, H.mods, Rd.nil _ _ _, Rd.nil _ _ _, (fun k h => h.elim), DecM.no hz⟩
 have hc57 := hb57; try simp only [bL] at hc57
 refine lgs F hb57 rfl (x_move (F.t 10 rfl)) fun a F => ?_
 refine lgs F hb57 rfl (x_gtr (F.t 58 rfl) rfl) fun a F => ?_
 refine la F rfl (x_pickF (F.t 57 rfl) hb57 (F.t 59 rfl)) fun a F => ?_
 refine wn (hK7 _ _ ?_)
 refine wp_cond_split (F.t 60 rfl) (fun hc60 => ?_) (fun hc60 => ?_)
 ·have hk60_1 := hc60; try simp only [bL] at hc60
  have hz : NoM bs := noM_head hdec (fun h => h.2.2 hc60)
  refine sr fun _ hK11 => ?_
  refine la F rfl (x_buildS (cells := #[.int .i64 0, .int .i64 0, .int .i64 0, .int .i64 0, .slice none 0 0, .slice none 0 0]) (places := #[(0, 1), (1, 1), (2, 1), (3, 1), (4, 1), (5, 1)]) Tryz.underlying26 ty26 (by kernel_rfl) Array.map_empty rfl) fun a F => ?_
  refine lp rfl ?_
  refine w_storeA 2 H ty26 rfl (F.t 2 rfl) (F.t 61 rfl) rfl (by simp [Value.cells, Value.oneCell']) rfl ?_
  clear H; intro w H
  refine la F rfl (x_assign rfl) fun a F => ?_
  refine wn (hK11 _ _ ?_)
  refine wp_ret ?_
  try simp only [Exit.then, Exit.inBlock]
  exact fin_ret F (resct F rfl rfl rfl (H.at 2 rfl) ty26 rfl) ⟨⟨0, 0, 0, 0, [], []⟩, none, 0, none, 0, (fun _ => False), 161, rfl, H.mods, Rd.nil _ _ _, Rd.nil _ _ _, (fun k h => h.elim), DecM.no hz⟩
 have hk60_2 := hc60; try simp only [bL] at hc60
 refine wp_skip ?_
 refine hK6 _ _ ?_
 refine wp_seq_k fun _ hK12 => ?_
 refine r_start [(901, .rd_ (.int .u8) A bs c (fun k => k < w0.heap.size)), (21, .rd_ FE Ar21 dl cr21 (fun kb => okr21 kb ∨ (Value.slice Ar21 dl.length cr21).ownBlock = some kb)), (33, .rd_ (.int .u8) Ar33 (fnd dl 1) cr33 (fun kb => (Value.slice Ar33 (fnd dl 1).length cr33).ownBlock = some kb)), (2, .blk b2 (.cells #[.int .i64 0, .int .i64 0, .int .i64 0, .int .i64 0, .slice none 0 0, .slice none 0 0] 26 (0, 0)))] (by kernel_rfl) H fun H => ?_
 have hS : SL [(901, .rd_ (.int .u8) A bs c (fun k => k < w0.heap.size)), (21, .rd_ FE Ar21 dl cr21 (fun kb => okr21 kb ∨ (Value.slice Ar21 dl.length cr21).ownBlock = some kb)), (33, .rd_ (.int .u8) Ar33 (fnd dl 1) cr33 (fun kb => (Value.slice Ar33 (fnd dl 1).length cr33).ownBlock = some kb)), (2, .blk b2 (.cells #[.int .i64 0, .int .i64 0, .int .i64 0, .int .i64 0, .slice none 0 0, .slice none 0 0] 26 (0, 0)))] _ := SL.of H (sub_cons (sub_cons (sub_cons (sub_cons (sub_nil _) 2 rfl) 33 rfl) 21 rfl) 901 rfl)
 refine rT 0 F rfl (by kernel_rfl) pq rfl hS (fun w hS => x_move (F.t 6 rfl)) rfl fun a F => ?_
 refine rT 1 F rfl (by kernel_rfl) pq rfl hS (fun w hS => x_iaddr_A Tryz.underlying27 ty5 ((H.rd 33 rfl)) (F.t 62 rfl) rfl (by omega) (by omega) _) rfl fun a F => ?_
 refine rT 2 F rfl (by kernel_rfl) pq rfl hS (fun w hS => x_load1 ty5 (F.t 63 rfl) (((SL.rd hS 33 rfl)).cellA (gi_some (i := 0) (by omega) (by omega)))) rfl fun a F => ?_
 refine rT 3 F rfl (by kernel_rfl) pq rfl hS (fun w hS => x_conv Tryz.underlying22 ⟨_, Tryz.underlying5⟩ (F.t 64 rfl) (w64 (by have := ((fnd_byte hbf 1 : Byte _).gi 0); omega) (by have := ((fnd_byte hbf 1 : Byte _).gi 0); omega))) rfl fun a F => ?_
 refine rT 4 F rfl (by kernel_rfl) pq rfl hS (fun w hS => x_move (F.t 6 rfl)) rfl fun a F => ?_
 refine rT 5 F rfl (by kernel_rfl) pq rfl hS (fun w hS => x_iaddr_A Tryz.underlying27 ty5 ((H.rd 33 rfl)) (F.t 66 rfl) rfl (by omega) (by omega) _) rfl fun a F => ?_
 refine rT 6 F rfl (by kernel_rfl) pq rfl hS (fun w hS => x_load1 ty5 (F.t 67 rfl) (((SL.rd hS 33 rfl)).cellA (gi_some (i := 1) (by omega) (by omega)))) rfl fun a F => ?_
 refine rT 7 F rfl (by kernel_rfl) pq rfl hS (fun w hS => x_conv Tryz.underlying3 ⟨_, Tryz.underlying5⟩ (F.t 68 rfl) (w64 (by have := ((fnd_byte hbf 1 : Byte _).gi 1); omega) (by have := ((fnd_byte hbf 1 : Byte _).gi 1); omega))) rfl fun a F => ?_
 refine rT 8 F rfl (by kernel_rfl) pq rfl hS (fun w hS => x_move (F.t 6 rfl)) rfl fun a F => ?_
 refine rT 9 F rfl (by kernel_rfl) pq rfl hS (fun w hS => x_iaddr_A Tryz.underlying27 ty5 ((H.rd 33 rfl)) (F.t 70 rfl) rfl (by omega) (by omega) _) rfl fun a F => ?_
 refine rT 10 F rfl (by kernel_rfl) pq rfl hS (fun w hS => x_load1 ty5 (F.t 71 rfl) (((SL.rd hS 33 rfl)).cellA (gi_some (i := 2) (by omega) (by omega)))) rfl fun a F => ?_
 refine rT 11 F rfl (by kernel_rfl) pq rfl hS (fun w hS => x_conv Tryz.underlying3 ⟨_, Tryz.underlying5⟩ (F.t 72 rfl) (w64 (by have := ((fnd_byte hbf 1 : Byte _).gi 2); omega) (by have := ((fnd_byte hbf 1 : Byte _).gi 2); omega))) rfl fun a F => ?_
 refine rT 12 F rfl (by kernel_rfl) pq rfl hS (fun w hS => x_move (F.t 10 rfl)) rfl fun a F => ?_
 refine rT 13 F rfl (by kernel_rfl) pq rfl hS (fun w hS => x_conv Tryz.underlying3 ⟨_, Tryz.underlying59⟩ (F.t 74 rfl) (w64 (by have := numV_range (fnd_byte hbf 2); omega) (by have := numV_range (fnd_byte hbf 2); omega))) rfl fun a F => ?_
 refine rT 14 F rfl (by kernel_rfl) pq rfl hS (fun w hS => x_buildS (cells := #[.int .i64 (gi (fnd dl 1) 0), .int .i64 (gi (fnd dl 1) 1), .int .i64 (gi (fnd dl 1) 2), .int .i64 (numV (fnd dl 2)), .slice none 0 0, .slice none 0 0]) (places := #[(0, 1), (1, 1), (2, 1), (3, 1), (4, 1), (5, 1)]) Tryz.underlying26 ty26 (by kernel_rfl) (by simp only [bM, F.t 65 rfl, F.t 69 rfl, F.t 73 rfl, F.t 75 rfl] <;> rfl) rfl) rfl fun a F => ?_
 refine r_do 15 rfl (by kernel_rfl) rfl rfl ?_
 refine w_alloc 12 F H rfl ty26 ?_
 clear F H; intro a w b12 F H
 refine aN (SL.of H (sub_cons (sub_cons (sub_cons (sub_cons (sub_nil _) 2 rfl) 33 rfl) 21 rfl) 901 rfl)) fun hS => ?_
 refine r_do 16 rfl (by kernel_rfl) rfl rfl ?_
 refine w_storeA 12 H ty26 rfl (F.t 12 rfl) (F.t 76 rfl) rfl (by simp [Value.cells, Value.oneCell']) rfl ?_
 clear H; intro w H
 refine aN (SL.of H (sub_cons (sub_cons (sub_cons (sub_cons (sub_nil _) 2 rfl) 33 rfl) 21 rfl) 901 rfl)) fun hS => ?_
 refine r_end (by kernel_rfl) ?_; clear hS
 refine hK12 _ _ ?_
 refine wp_seq_k fun _ hK13 => ?_
 refine sr fun _ hK14 => ?_
 have H := H.row0 60 (Rep.int .i64) 3
 have H := H.row0 61 ChgE 66
 refine la F rfl (x_move (F.t 4 rfl)) fun a F => ?_
 refine la F rfl (x_len_slice Tryz.underlying60 (F.t 77 rfl)) fun a F => ?_
 refine la F rfl (x_move rfl) fun a F => ?_
 refine wn (hK14 _ _ ?_)
 refine wp_block ?_
 refine wp_loop_ghost (fun n_ a w => ∃ k : Nat, ∃ An : Option Addr, ∃ cn : Nat, ∃ ns : List Int, ∃ Ac : Option Addr, ∃ cc : Nat, ∃ cs : List ChangeD, ∃ okc : Nat → Prop, n_ = dl.length - k ∧ (k ≤ dl.length) ∧ (MInv dl k ns cs) ∧ (Byte ns) ∧ (∀ c ∈ cs, ChangeB c) ∧ (ns.length ≤ 2000 * k) ∧ (cs.length ≤ k) ∧ (∀ kb, okc kb → w0.heap.size ≤ kb) ∧ Fr 135 a [(0, .slice A bs.length c), (2, .pointer (some ⟨b2, 0, none⟩)), (12, .pointer (some ⟨b12, 0, none⟩)), (77, .slice Ar21 dl.length cr21), (78, .int .i64 (dl.length : Int)), (79, .int .i64 (k : Int))] ∧ Hp (fun _ => False) w0 w [(901, .rd_ (.int .u8) A bs c (fun k => k < w0.heap.size)), (990, .lib true), (2, .blk b2 (.cells #[.int .i64 0, .int .i64 0, .int .i64 0, .int .i64 0, .slice none 0 0, .slice none 0 0] 26 (0, 0))), (21, .rd_ FE Ar21 dl cr21 (fun kb => okr21 kb ∨ (Value.slice Ar21 dl.length cr21).ownBlock = some kb)), (33, .rd_ (.int .u8) Ar33 (fnd dl 1) cr33 (fun kb => (Value.slice Ar33 (fnd dl 1).length cr33).ownBlock = some kb)), (38, .row (.int .u8) 5 (.slice Ar38 (fnd dl 2).length cr38) (fnd dl 2) (fun _ => False)), (12, .blk b12 (.cells #[.int .i64 (gi (fnd dl 1) 0), .int .i64 (gi (fnd dl 1) 1), .int .i64 (gi (fnd dl 1) 2), .int .i64 (numV (fnd dl 2)), .slice An ns.length cn, .slice Ac cs.length cc] 26 (0, 0))), (60, .row (.int .i64) 3 (.slice An ns.length cn) ns (fun _ => False)), (61, .row ChgE 66 (.slice Ac cs.length cc) cs okc)]) (dl.length) ?_ ?_
 ·exact ⟨0, none, 0, [], none, 0, [], (fun _ => False), rfl, by omega, MInv.start dl, Byte.nil, (fun c hc => by cases hc), by simp, by simp, (fun kb h => h.elim), ((((((F.bare.add F 79 rfl).add F 78 rfl).add F 77 rfl).add F 12 rfl).add F 2 rfl).add F 0 rfl), H.sub _ (sub_cons (sub_cons (sub_cons (sub_cons (sub_cons (sub_cons (sub_cons (sub_cons (sub_cons (sub_nil _) 61 rfl) 60 rfl) 12 rfl) 38 rfl) 33 rfl) 21 rfl) 2 rfl) 990 rfl) 901 rfl)⟩
 rintro _ a w ⟨k, An, cn, ns, Ac, cc, cs, okc, rfl, hq0_0, hq0_1, hq0_2, hq0_3, hq0_4, hq0_5, hq0_6, F, H⟩
 refine sr fun _ hK15 => ?_
 refine la F rfl (x_lss (F.t 79 rfl) (F.t 78 rfl)) fun a F => ?_
 refine wn (hK15 _ _ ?_)
 refine wp_seq_k fun _ hK16 => ?_
 refine wp_cond_split (F.t 80 rfl) (fun hc80 => ?_) (fun hc80 => ?_)
 ·have hk80_3 := hc80; try simp only [bL] at hc80
  refine wp_skip ?_
  refine hK16 _ _ ?_
  refine wp_seq_k fun _ hK17 => ?_
  refine wp_block ?_
  refine sr fun _ hK18 => ?_
  obtain ⟨fA1, fc1, hfr1, hf1_0, hf1_1, hfw1⟩ := Rd.fld ((H.rd 21 rfl)) (gf_some (xs := dl) (i := (k : Int)) (by omega) (by omega))
  have H := H.subrd 21 rfl 1001 hfr1 (fun _ h => h)
  have H := H.subcels 21 rfl 1499 hfw1 (Rd.inok ((H.rd 21 rfl)) (by omega) _)
  have H := H.subcel 21 rfl 1500 hf1_0 (Rd.inok ((H.rd 21 rfl)) (by omega) _)
  have H := H.subcel 21 rfl 1501 hf1_1 (Rd.inok ((H.rd 21 rfl)) (by omega) _)
  have hmk : gf dl (k : Int) ∈ dl := List.mem_of_getElem? (gf_some (xs := dl) (i := (k : Int)) (by omega) (by omega))
  have hD2 := hfew.2 _ hmk
  refine la F rfl (x_iaddr_A Tryz.underlying60 ty57 ((H.rd 21 rfl)) (F.t 77 rfl) (F.t 79 rfl) (by omega) (by omega) _) fun a F => ?_
  refine la F rfl (x_loadn ty57 (F.t 81 rfl) rfl (H.holds 1499 _ rfl)) fun a F => ?_
  refine lp rfl ?_
  refine w_alloc 14 F H rfl ty57 ?_
  clear F H; intro a w b14 F H
  refine lp rfl ?_
  refine w_storeA 14 H ty57 rfl (F.t 14 rfl) (F.t 82 rfl) rfl (by simp [Value.cells, Value.oneCell']) rfl ?_
  clear H; intro w H
  refine wn (hK18 _ _ ?_)
  refine sr fun _ hK19 => ?_
  refine la F rfl (x_faddr Tryz.underlying57 rfl ty3 (by decide) (F.t 14 rfl) rfl) fun a F => ?_
  refine la F rfl (x_load1 ty3 (F.t 83 rfl) (blk_cell (H.at 14 rfl) 0 rfl)) fun a F => ?_
  refine wn (hK19 _ _ ?_)
  refine wp_block ?_
  refine sr fun _ hK20 => ?_
  refine la F rfl (x_eql (F.t 84 rfl) rfl) fun a F => ?_
  refine la F rfl (x_assign (F.t 86 rfl)) fun a F => ?_
  refine wn (hK20 _ _ ?_)
  refine wp_cond_split (F.t 85 rfl) (fun hc85 => ?_) (fun hc85 => ?_)
  ·have hk85_4 := hc85; try simp only [bL] at hc85
   refine sr fun _ hK21 => ?_
   refine la F rfl (x_faddr Tryz.underlying57 rfl ty27 (by decide) (F.t 14 rfl) rfl) fun a F => ?_
   refine la F rfl (x_load1 ty27 (F.t 87 rfl) (blk_cell (H.at 14 rfl) 1 rfl)) fun a F => ?_
   refine la F rfl (x_len_slice Tryz.underlying27 (F.t 88 rfl)) fun a F => ?_
   refine la F rfl (x_move rfl) fun a F => ?_
   refine wn (hK21 _ _ ?_)
   refine wp_block ?_
   refine wp_loop_ghost (fun n_ a w => ∃ j : Nat, ∃ Aj : Option Addr, ∃ cj : Nat, ∃ l : List Int, n_ = (gf dl (k : Int)).2.length - j ∧ (j ≤ (gf dl (k : Int)).2.length) ∧ (l = ns ++ (gf dl (k : Int)).2.take j) ∧ Fr 135 a [(0, .slice A bs.length c), (2, .pointer (some ⟨b2, 0, none⟩)), (12, .pointer (some ⟨b12, 0, none⟩)), (77, .slice Ar21 dl.length cr21), (78, .int .i64 (dl.length : Int)), (79, .int .i64 (k : Int)), (88, .slice fA1 (gf dl (k : Int)).2.length fc1), (89, .int .i64 (((gf dl (k : Int)).2).length : Int)), (90, .int .i64 (j : Int))] ∧ Hp (fun _ => False) w0 w [(901, .rd_ (.int .u8) A bs c (fun k => k < w0.heap.size)), (990, .lib true), (2, .blk b2 (.cells #[.int .i64 0, .int .i64 0, .int .i64 0, .int .i64 0, .slice none 0 0, .slice none 0 0] 26 (0, 0))), (21, .rd_ FE Ar21 dl cr21 (fun kb => okr21 kb ∨ (Value.slice Ar21 dl.length cr21).ownBlock = some kb)), (33, .rd_ (.int .u8) Ar33 (fnd dl 1) cr33 (fun kb => (Value.slice Ar33 (fnd dl 1).length cr33).ownBlock = some kb)), (38, .row (.int .u8) 5 (.slice Ar38 (fnd dl 2).length cr38) (fnd dl 2) (fun _ => False)), (12, .blk b12 (.cells #[.int .i64 (gi (fnd dl 1) 0), .int .i64 (gi (fnd dl 1) 1), .int .i64 (gi (fnd dl 1) 2), .int .i64 (numV (fnd dl 2)), .slice Aj l.length cj, .slice Ac cs.length cc] 26 (0, 0))), (60, .row (.int .i64) 3 (.slice Aj l.length cj) l (fun _ => False)), (61, .row ChgE 66 (.slice Ac cs.length cc) cs okc), (1001, .rd_ (.int .u8) (fA1) (gf dl (k : Int)).2 fc1 (fun kb => okr21 kb ∨ (Value.slice Ar21 dl.length cr21).ownBlock = some kb)), (1499, .cels (adr Ar21 (Int.toNat (k : Int) * 2)) #[.int .i64 (gf dl (k : Int)).1, .slice fA1 (gf dl (k : Int)).2.length fc1]), (1500, .cel (adr Ar21 (Int.toNat (k : Int) * 2)) (.int .i64 (gf dl (k : Int)).1)), (1501, .cel (adr Ar21 (Int.toNat (k : Int) * 2 + 1)) (.slice fA1 (gf dl (k : Int)).2.length fc1)), (14, .blk b14 (.cells #[.int .i64 (gf dl (k : Int)).1, .slice fA1 (gf dl (k : Int)).2.length fc1] 57 (0, 0)))]) ((gf dl (k : Int)).2.length) ?_ ?_
   ·exact ⟨0, An, cn, ns, rfl, by omega, by simp, (((((((((F.bare.add F 90 rfl).add F 89 rfl).add F 88 rfl).add F 79 rfl).add F 78 rfl).add F 77 rfl).add F 12 rfl).add F 2 rfl).add F 0 rfl), H.sub _ (sub_cons (sub_cons (sub_cons (sub_cons (sub_cons (sub_cons (sub_cons (sub_cons (sub_cons (sub_cons (sub_cons (sub_cons (sub_cons (sub_cons (sub_nil _) 14 rfl) 1501 rfl) 1500 rfl) 1499 rfl) 1001 rfl) 61 rfl) 60 rfl) 12 rfl) 38 rfl) 33 rfl) 21 rfl) 2 rfl) 990 rfl) 901 rfl)⟩
   rintro _ a w ⟨j, Aj, cj, l, rfl, hq3_0, hq3_1, F, H⟩
   have hlj := hq0_4
   have hll : l.length ≤ 400000 + 2000 := by rw [hq3_1, List.length_append, List.length_take]; have := hfew.1; have := hfew.2 _ hmk; omega
   refine sr fun _ hK22 => ?_
   refine la F rfl (x_lss (F.t 90 rfl) (F.t 89 rfl)) fun a F => ?_
   refine wn (hK22 _ _ ?_)
   refine wp_seq_k fun _ hK23 => ?_
   refine wp_cond_split (F.t 91 rfl) (fun hc91 => ?_) (fun hc91 => ?_)
   ·have hk91_5 := hc91; try simp only [bL] at hc91
    refine wp_skip ?_
    refine hK23 _ _ ?_
    refine wp_seq_k fun _ hK24 => ?_
    refine wp_block ?_
    refine sr fun _ hK25 => ?_
    refine la F rfl (x_iaddr_A Tryz.underlying27 ty5 ((H.rd 1001 rfl)) (F.t 88 rfl) (F.t 90 rfl) (by omega) (by omega) _) fun a F => ?_
    refine la F rfl (x_load1 ty5 (F.t 92 rfl) (((H.rd 1001 rfl)).cellA (gi_some (i := (j : Int)) (by omega) (by omega)))) fun a F => ?_
    refine la F rfl (x_assign (F.t 93 rfl)) fun a F => ?_
    refine wn (hK25 _ _ ?_)
    refine wp_region_lit ?_
    refine la F rfl (x_faddr Tryz.underlying26 rfl ty23 (by decide) (F.t 12 rfl) rfl) fun a F => ?_
    refine la F rfl (x_load1 ty23 (F.t 94 rfl) (blk_cell (H.at 12 rfl) 4 rfl)) fun a F => ?_
    refine la F rfl (x_move (F.t 16 rfl)) fun a F => ?_
    refine la F rfl (x_conv Tryz.underlying3 ⟨_, Tryz.underlying5⟩ (F.t 96 rfl) (w64 (by have := ((hbf _ hmk : Byte _).gi (j : Int)); omega) (by have := ((hbf _ hmk : Byte _).gi (j : Int)); omega))) fun a F => ?_
    refine lp rfl ?_
    refine w_lit 950 (enc := Value.int .i64) (h1 := fun _ => rfl) ([(gi (gf dl (k : Int)).2 (j : Int))]) F H rfl Tryz.underlying23 ty3 (by simp only [bM, F.t 97 rfl]; rfl) rfl (by decide) (by decide) (by kernel_rfl) ?_
    clear F H; intro a w b98 F H
    refine lp rfl ?_
    refine w_append 60 950 (xs := l) (ys := ([(gi (gf dl (k : Int)).2 (j : Int))])) F H rfl Tryz.underlying23 ty3 rfl rfl rfl rfl (Row.rd (ok' := fun k_ => (fun _ => False) k_ ∨ (.slice (some ⟨b98, 0, none⟩) ([(gi (gf dl (k : Int)).2 (j : Int))]).length ([(gi (gf dl (k : Int)).2 (j : Int))]).length : Value).ownBlock = some k_) (H.row 950 rfl) (fun _ hk_ _ => .inl hk_) (fun _ hk_ => .inr hk_)) (by rintro k_ (hk_ | hk_); exact .inr hk_; exact .inl hk_) (F.t 95 rfl) (F.t 98 rfl) (by simp only [lN] at *; omega) (by simp only [lN, maxLen] at *; omega) (fun _ => False) (fun w' v' h => row_flat h _) (fun k_ hk_ => hk_.elim) ?_
    clear F H; intro a w v99 F H
    obtain ⟨A99, c99, rfl⟩ := (H.row 60 rfl).form
    refine la F rfl (x_faddr Tryz.underlying26 rfl ty23 (by decide) (F.t 12 rfl) rfl) fun a F => ?_
    refine lp rfl ?_
    refine w_store 12 H ty23 rfl (F.t 100 rfl) (F.t 99 rfl) rfl (one1 rfl rfl) (by first | decide | exact Nat.le_of_ble_eq_true rfl) ?_
    clear H; intro w H
    refine wn (hK24 _ _ ?_)
    refine wp_region_lit ?_
    refine la F rfl (x_add (F.t 90 rfl) rfl (w64 (by omega) (by omega))) fun a F => ?_
    refine la F rfl (x_move (F.t 101 rfl)) fun a F => ?_
    refine wpList_nil ?_
    exact ⟨_, by omega, ⟨j + 1, A99, c99, (l ++ [(gi (gf dl (k : Int)).2 (j : Int))]), rfl, by omega, ghost_step hq3_1 (by omega), (((((((((F.bare.add F 90 rfl).add F 89 rfl).add F 88 rfl).add F 79 rfl).add F 78 rfl).add F 77 rfl).add F 12 rfl).add F 2 rfl).add F 0 rfl), H.sub _ (sub_cons (sub_cons (sub_cons (sub_cons (sub_cons (sub_cons (sub_cons (sub_cons (sub_cons (sub_cons (sub_cons (sub_cons (sub_cons (sub_cons (sub_nil _) 14 rfl) 1501 rfl) 1500 rfl) 1499 rfl) 1001 rfl) 61 rfl) 60 rfl) 12 rfl) 38 rfl) 33 rfl) 21 rfl) 2 rfl) 990 rfl) 901 rfl)⟩⟩
   have hk91_6 := hc91; try simp only [bL] at hc91
   obtain rfl : j = (gf dl (k : Int)).2.length := by omega
   have hle_ : l = ns ++ (gf dl (k : Int)).2 := by rw [hq3_1, List.take_length]
   refine wp_exit ?_
   refine hK17 _ _ ?_
   refine wp_region_lit ?_
   refine la F rfl (x_add (F.t 79 rfl) rfl (w64 (by omega) (by omega))) fun a F => ?_
   refine la F rfl (x_move (F.t 119 rfl)) fun a F => ?_
   refine wpList_nil ?_
   exact ⟨_, by omega, ⟨k + 1, Aj, cj, l, Ac, cc, cs, okc, rfl, by omega, (hle_ ▸ hq0_1.nodes hc80 hc85), (by rw [hle_]; exact hq0_2.app (hbf _ hmk)), hq0_3, (by rw [hle_, List.length_append]; omega), by omega, hq0_6, ((((((F.bare.add F 79 rfl).add F 78 rfl).add F 77 rfl).add F 12 rfl).add F 2 rfl).add F 0 rfl), H.sub _ (sub_cons (sub_cons (sub_cons (sub_cons (sub_cons (sub_cons (sub_cons (sub_cons (sub_cons (sub_nil _) 61 rfl) 60 rfl) 12 rfl) 38 rfl) 33 rfl) 21 rfl) 2 rfl) 990 rfl) 901 rfl)⟩⟩
  have hk85_7 := hc85; try simp only [bL] at hc85
  refine sr fun _ hK26 => ?_
  refine la F rfl (x_eql (F.t 84 rfl) rfl) fun a F => ?_
  refine la F rfl (x_assign (F.t 103 rfl)) fun a F => ?_
  refine wn (hK26 _ _ ?_)
  refine wp_cond_split (F.t 102 rfl) (fun hc102 => ?_) (fun hc102 => ?_)
  ·have hk102_8 := hc102; try simp only [bL] at hc102
   refine sr fun _ hK27 => ?_
   refine la F rfl (x_faddr Tryz.underlying57 rfl ty27 (by decide) (F.t 14 rfl) rfl) fun a F => ?_
   refine la F rfl (x_load1 ty27 (F.t 105 rfl) (blk_cell (H.at 14 rfl) 1 rfl)) fun a F => ?_
   refine lp rfl ?_
   refine w_call F (x_enter Tryz.func39 (by kernel_rfl) rfl (by simp only [bM, F.t 106 rfl] <;> rfl)) (decC_calls _ (H.holds 990 _ rfl) ((H.rd 1001 rfl)) (hbf _ hmk)) rfl rfl ?_
   rintro _ w ⟨x, Ad, cd, g, rfl, hm_, hr_, hD_⟩; refine ⟨_, rfl, ?_⟩; clear F; intro a F; have H := Hp.rowOut H 70 hm_ hr_
   refine la F rfl (x_move (F.t 107 rfl)) fun a F => ?_
   refine la F rfl (x_extract (F.t 104 rfl) rfl) fun a F => ?_
   refine la F rfl (x_extract (F.t 104 rfl) rfl) fun a F => ?_
   refine lp rfl ?_
   refine w_alloc 17 F H rfl ty66 ?_
   clear F H; intro a w b17 F H
   refine lp rfl ?_
   refine w_storeA 17 H ty66 rfl (F.t 17 rfl) (F.t 108 rfl) rfl (by simp [Value.cells, Value.oneCell']) rfl ?_
   clear H; intro w H
   refine la F rfl (x_assign (F.t 109 rfl)) fun a F => ?_
   refine wn (hK27 _ _ ?_)
   refine wp_seq_k fun _ hK28 => ?_
   refine sr fun _ hK29 => ?_
   refine la F rfl (x_move (F.t 18 rfl)) fun a F => ?_
   refine la F rfl (x_neq (F.t 110 rfl) rfl) fun a F => ?_
   refine wn (hK29 _ _ ?_)
   refine wp_cond_split (F.t 111 rfl) (fun hc111 => ?_) (fun hc111 => ?_)
   ·have hk111_9 := hc111; try simp only [bL] at hc111
    have hz : NoM bs := noM_chg hdec hc80 hc102 hD_ hc111
    refine sr fun _ hK30 => ?_
    refine la F rfl (x_buildS (cells := #[.int .i64 0, .int .i64 0, .int .i64 0, .int .i64 0, .slice none 0 0, .slice none 0 0]) (places := #[(0, 1), (1, 1), (2, 1), (3, 1), (4, 1), (5, 1)]) Tryz.underlying26 ty26 (by kernel_rfl) Array.map_empty rfl) fun a F => ?_
    refine lp rfl ?_
    refine w_storeA 2 H ty26 rfl (F.t 2 rfl) (F.t 112 rfl) rfl (by simp [Value.cells, Value.oneCell']) rfl ?_
    clear H; intro w H
    refine la F rfl (x_assign rfl) fun a F => ?_
    refine wn (hK30 _ _ ?_)
    refine wp_ret ?_
    try simp only [Exit.then, Exit.inBlock]
    exact fin_ret F (resct F rfl rfl rfl (H.at 2 rfl) ty26 rfl) ⟨⟨0, 0, 0, 0, [], []⟩, none, 0, none, 0, (fun _ => False), 161, rfl, H.mods, Rd.nil _ _ _, Rd.nil _ _ _, (fun k h => h.elim), DecM.no hz⟩
   have hk111_10 := hc111; try simp only [bL] at hc111
   have hg0 : g = 0 := hc111
   refine wp_skip ?_
   refine hK28 _ _ ?_
   refine wp_region_lit ?_
   have hfr70 : ∀ kb, (Value.slice Ad x.timer.steps.length cd).ownBlock = some kb → w0.heap.size ≤ kb := fun kb h => (H.mine 70 _ rfl kb h).resolve_left (fun h => h)
   have H := H.freeze 70 rfl (fun kb => (Value.slice Ad x.timer.steps.length cd).ownBlock = some kb) (fun kb => ⟨fun h => .inr h, fun h => h.resolve_left id⟩)
   refine la F rfl (x_faddr Tryz.underlying26 rfl ty24 (by decide) (F.t 12 rfl) rfl) fun a F => ?_
   refine la F rfl (x_load1 ty24 (F.t 113 rfl) (blk_cell (H.at 12 rfl) 5 rfl)) fun a F => ?_
   refine la F rfl (x_loadn ty66 (F.t 17 rfl) rfl (blk_whole (H.at 17 rfl))) fun a F => ?_
   refine lp rfl ?_
   refine w_lit1 116 ChgE x #[.int .i64 x.kind, .string (strOfNums x.key), .string (strOfNums x.value), .string (strOfNums x.timer.name), .int .i64 x.timer.ver, .int .u64 x.timer.tick, .int .u64 x.timer.every, .slice Ad x.timer.steps.length cd] (fun kb => (Value.slice Ad x.timer.steps.length cd).ownBlock = some kb) F H rfl Tryz.underlying24 ty66 (by simp only [bM, F.t 115 rfl] <;> rfl) (by decide) (by kernel_rfl) (chg_mk x ((H.rd 70 rfl))) (fun kb hk => ⟨70, _, rfl, hk⟩) ?_
   clear F H; intro a w b116 F hb116_ H
   refine lp rfl ?_
   refine w_append 61 116 (xs := cs) (ys := ([x])) F H rfl Tryz.underlying24 ty66 rfl rfl rfl rfl ((H.rd 116 rfl)) oI (F.t 114 rfl) (F.t 116 rfl) (by simp only [lN] at *; omega) (by simp only [lN, maxLen] at *; omega) (fun kb => okc kb ∨ (fun kb => (fun kb => (Value.slice Ad x.timer.steps.length cd).ownBlock = some kb) kb ∨ kb = b116) kb) (fun w' v' h => h) (by rintro k_ (hk_ | hk_); exact .inl hk_; exact .inr hk_) ?_
   clear F H; intro a w v117 F H
   obtain ⟨A117, c117, rfl⟩ := (H.row 61 rfl).form
   refine la F rfl (x_faddr Tryz.underlying26 rfl ty24 (by decide) (F.t 12 rfl) rfl) fun a F => ?_
   refine lp rfl ?_
   refine w_store 12 H ty24 rfl (F.t 118 rfl) (F.t 117 rfl) rfl (one1 rfl rfl) (by first | decide | exact Nat.le_of_ble_eq_true rfl) ?_
   clear H; intro w H
   refine wn (hK17 _ _ ?_)
   refine wp_region_lit ?_
   refine la F rfl (x_add (F.t 79 rfl) rfl (w64 (by omega) (by omega))) fun a F => ?_
   refine la F rfl (x_move (F.t 119 rfl)) fun a F => ?_
   refine wpList_nil ?_
   exact ⟨_, by omega, ⟨k + 1, An, cn, ns, A117, c117, (cs ++ [x]), (fun kb => okc kb ∨ (fun kb => (fun kb => (Value.slice Ad x.timer.steps.length cd).ownBlock = some kb) kb ∨ kb = b116) kb), rfl, by omega, hq0_1.chg hc80 hc102 (hg0 ▸ hD_), hq0_2, (fun c hc => by rcases List.mem_append.1 hc with hc | hc; exact hq0_3 c hc; rw [List.mem_singleton.1 hc]; exact hD_.1), by omega, (by simp only [lN]; omega), (fun kb h => by rcases h with h | h | rfl; exact hq0_6 kb h; exact hfr70 kb h; exact hb116_.resolve_left id), ((((((F.bare.add F 79 rfl).add F 78 rfl).add F 77 rfl).add F 12 rfl).add F 2 rfl).add F 0 rfl), H.sub _ (sub_cons (sub_cons (sub_cons (sub_cons (sub_cons (sub_cons (sub_cons (sub_cons (sub_cons (sub_nil _) 61 rfl) 60 rfl) 12 rfl) 38 rfl) 33 rfl) 21 rfl) 2 rfl) 990 rfl) 901 rfl)⟩⟩
  have hk102_11 := hc102; try simp only [bL] at hc102
  refine wp_skip ?_
  refine hK17 _ _ ?_
  refine wp_region_lit ?_
  refine la F rfl (x_add (F.t 79 rfl) rfl (w64 (by omega) (by omega))) fun a F => ?_
  refine la F rfl (x_move (F.t 119 rfl)) fun a F => ?_
  refine wpList_nil ?_
  exact ⟨_, by omega, ⟨k + 1, An, cn, ns, Ac, cc, cs, okc, rfl, by omega, hq0_1.skip hc80 hc85 hc102, hq0_2, hq0_3, by omega, by omega, hq0_6, ((((((F.bare.add F 79 rfl).add F 78 rfl).add F 77 rfl).add F 12 rfl).add F 2 rfl).add F 0 rfl), H.sub _ (sub_cons (sub_cons (sub_cons (sub_cons (sub_cons (sub_cons (sub_cons (sub_cons (sub_cons (sub_nil _) 61 rfl) 60 rfl) 12 rfl) 38 rfl) 33 rfl) 21 rfl) 2 rfl) 990 rfl) 901 rfl)⟩⟩
 have hk80_12 := hc80; try simp only [bL] at hc80
 obtain rfl : k = dl.length := by omega
 have hMB : MessageB (zM dl ns cs) := ⟨i64_u8 ((fnd_byte hbf 1 : Byte _).gi 0), i64_u8 ((fnd_byte hbf 1 : Byte _).gi 1), i64_u8 ((fnd_byte hbf 1 : Byte _).gi 2), (by have := numV_range (fnd_byte hbf 2); exact ⟨by show (_ : Int) ≤ numV _; omega, by show numV _ < (_ : Int); omega⟩), (fun n hn => (by have := hq0_2 n hn; exact ⟨by omega, by omega⟩)), hq0_3⟩
 refine wp_exit ?_
 refine hK13 _ _ ?_
 refine wp_seq_k fun _ hK31 => ?_
 refine sr fun _ hK32 => ?_
 refine la F rfl (x_loadn ty26 (F.t 12 rfl) rfl (blk_whole (H.at 12 rfl))) fun a F => ?_
 refine lp rfl ?_
 refine w_call F (x_enter Tryz.func7 (by kernel_rfl) rfl (by simp only [bM, F.t 121 rfl] <;> rfl)) (encM_calls (m := (zM dl ns cs)) _ (H.holds 990 _ rfl) (Row.rd (ok' := fun k_ => (fun _ => False) k_ ∨ (.slice An ns.length cn : Value).ownBlock = some k_) (H.row 60 rfl) (fun _ hk_ _ => .inl hk_) (fun _ hk_ => .inr hk_)) (Row.rd (ok' := fun k_ => okc k_ ∨ (.slice Ac cs.length cc : Value).ownBlock = some k_) (H.row 61 rfl) (fun _ hk_ _ => .inl hk_) (fun _ hk_ => .inr hk_)) hMB) rfl rfl ?_
 rintro _ w ⟨vr80, rfl, hm_, hr_⟩; refine ⟨_, rfl, ?_⟩; clear F; intro a F; have H := Hp.rowOut H 80 hm_ hr_; obtain ⟨Ar80, cr80, rfl⟩ := (H.row 80 rfl).form
 refine la F rfl (x_move (F.t 122 rfl)) fun a F => ?_
 refine la F rfl (x_extract (F.t 120 rfl) rfl) fun a F => ?_
 refine la F rfl (x_extract (F.t 120 rfl) rfl) fun a F => ?_
 refine la F rfl (x_assign (F.t 123 rfl)) fun a F => ?_
 refine la F rfl (x_assign (F.t 124 rfl)) fun a F => ?_
 refine wn (hK32 _ _ ?_)
 refine sr fun _ hK33 => ?_
 refine la F rfl (x_move (F.t 20 rfl)) fun a F => ?_
 refine la F rfl (x_neq (F.t 125 rfl) rfl) fun a F => ?_
 refine la F rfl (x_move (F.t 126 rfl)) fun a F => ?_
 refine split_bool F 127 rfl (fun hb127 => ?_) (fun hb127 => ?_)
 ·have hc127 := hb127; try simp only [bL] at hc127
  have hz : NoM bs := noM_end hdec hq0_1 (fun h => hc127 h.1)
  refine los F hb127 rfl fun a F => ?_
  refine los F hb127 rfl fun a F => ?_
  refine los F hb127 rfl fun a F => ?_
  refine los F hb127 rfl fun a F => ?_
  refine la F rfl (x_pickT (F.t 127 rfl) hb127 rfl) fun a F => ?_
  refine wn (hK33 _ _ ?_)
  refine wp_cond_true (F.t 132 rfl) ?_
  refine sr fun _ hK34 => ?_
  refine la F rfl (x_buildS (cells := #[.int .i64 0, .int .i64 0, .int .i64 0, .int .i64 0, .slice none 0 0, .slice none 0 0]) (places := #[(0, 1), (1, 1), (2, 1), (3, 1), (4, 1), (5, 1)]) Tryz.underlying26 ty26 (by kernel_rfl) Array.map_empty rfl) fun a F => ?_
  refine lp rfl ?_
  refine w_storeA 2 H ty26 rfl (F.t 2 rfl) (F.t 133 rfl) rfl (by simp [Value.cells, Value.oneCell']) rfl ?_
  clear H; intro w H
  refine la F rfl (x_assign rfl) fun a F => ?_
  refine wn (hK34 _ _ ?_)
  refine wp_ret ?_
  try simp only [Exit.then, Exit.inBlock]
  exact fin_ret F (resct F rfl rfl rfl (H.at 2 rfl) ty26 rfl) ⟨⟨0, 0, 0, 0, [], []⟩, none, 0, none, 0, (fun _ => False), 161, rfl, H.mods, Rd.nil _ _ _, Rd.nil _ _ _, (fun k h => h.elim), DecM.no hz⟩
 have hc127 := hb127; try simp only [bL] at hc127
 refine lgs F hb127 rfl (x_move (F.t 19 rfl)) fun a F => ?_
 refine lgs F hb127 rfl (x_move (F.t 0 rfl)) fun a F => ?_
 refine lpo ((wo F rfl).trans (by rw [hb127]; rfl)) ?_
 refine w_call F (x_enter Tryz.func40 (by kernel_rfl) rfl (by simp only [bM, F.t 128 rfl, F.t 129 rfl] <;> rfl)) (bequal_calls _ (Row.rd (ok' := fun k_ => (fun _ => False) k_ ∨ (.slice Ar80 (encM (zM dl ns cs)).length cr80 : Value).ownBlock = some k_) (H.row 80 rfl) (fun _ hk_ _ => .inl hk_) (fun _ hk_ => .inr hk_)) ((H.rd 901 rfl)) (encM_byte hMB) hby) rfl rfl ?_
 rintro _ w ⟨rfl, hm_⟩; refine ⟨_, rfl, ?_⟩; clear F; intro a F; have H := H.same hm_
 refine lgs F hb127 rfl (x_not (F.t 130 rfl)) fun a F => ?_
 refine la F rfl (x_pickF (F.t 127 rfl) hb127 (F.t 131 rfl)) fun a F => ?_
 refine wn (hK33 _ _ ?_)
 refine wp_cond_split (F.t 132 rfl) (fun hc132 => ?_) (fun hc132 => ?_)
 ·have hk132_13 := hc132; try simp only [bL] at hc132
  have hz : NoM bs := noM_end hdec hq0_1 (fun h => hc132 h.2)
  refine sr fun _ hK35 => ?_
  refine la F rfl (x_buildS (cells := #[.int .i64 0, .int .i64 0, .int .i64 0, .int .i64 0, .slice none 0 0, .slice none 0 0]) (places := #[(0, 1), (1, 1), (2, 1), (3, 1), (4, 1), (5, 1)]) Tryz.underlying26 ty26 (by kernel_rfl) Array.map_empty rfl) fun a F => ?_
  refine lp rfl ?_
  refine w_storeA 2 H ty26 rfl (F.t 2 rfl) (F.t 133 rfl) rfl (by simp [Value.cells, Value.oneCell']) rfl ?_
  clear H; intro w H
  refine la F rfl (x_assign rfl) fun a F => ?_
  refine wn (hK35 _ _ ?_)
  refine wp_ret ?_
  try simp only [Exit.then, Exit.inBlock]
  exact fin_ret F (resct F rfl rfl rfl (H.at 2 rfl) ty26 rfl) ⟨⟨0, 0, 0, 0, [], []⟩, none, 0, none, 0, (fun _ => False), 161, rfl, H.mods, Rd.nil _ _ _, Rd.nil _ _ _, (fun k h => h.elim), DecM.no hz⟩
 have hk132_14 := hc132; try simp only [bL] at hc132
 refine wp_skip ?_
 refine hK31 _ _ ?_
 refine sr fun _ hK36 => ?_
 refine la F rfl (x_loadn ty26 (F.t 12 rfl) rfl (blk_whole (H.at 12 rfl))) fun a F => ?_
 refine lp rfl ?_
 refine w_storeA 2 H ty26 rfl (F.t 2 rfl) (F.t 134 rfl) rfl (by simp [Value.cells, Value.oneCell']) rfl ?_
 clear H; intro w H
 refine la F rfl (x_assign rfl) fun a F => ?_
 refine wn (hK36 _ _ ?_)
 refine wp_ret ?_
 try simp only [Exit.then, Exit.inBlock]
 have hE : encME (zM dl ns cs) = 0 := by first | exact hc132 | exact hc127 | exact hc80 | exact hc60 | exact hc57 | exact hc53 | exact hc48
 have hX : encM (zM dl ns cs) = bs := by first | exact hc132 | exact hc127 | exact hc80 | exact hc60 | exact hc57 | exact hc53 | exact hc48
 exact fin_ret F (resct F rfl rfl rfl (H.at 2 rfl) ty26 rfl) ⟨(zM dl ns cs), An, cn, Ac, cc, (fun k => (Value.slice An ns.length cn).ownBlock = some k ∨ okc k ∨ (Value.slice Ac cs.length cc).ownBlock = some k), 0, rfl, H.mods, Row.rd (H.row 60 rfl) (fun k h _ => h.elim) (fun k h => .inl h), Row.rd (H.row 61 rfl) (fun k h _ => .inr (.inl h)) (fun k h => .inr (.inr h)), (fun k h => by rcases h with h | h | h; exact ⟨(H.mine 60 _ rfl k h).resolve_left id, H.inb 60 _ rfl k (.inl h)⟩; exact ⟨hq0_6 k h, H.inb 61 _ rfl k (.inr h)⟩; exact ⟨(H.mine 61 _ rfl k h).resolve_left id, H.inb 61 _ rfl k (.inl h)⟩), ⟨hMB, .inl ⟨rfl, encME0 hE, hX⟩⟩⟩
end Go.Proofs.YtiiklnghnifmjaaGreatDoor.Act
