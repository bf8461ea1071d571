/- A change's bytes decoded, walked. -/
import Derived.Test.YtiiklnghnifmjaaGreatDoorActEZc
import Derived.Test.YtiiklnghnifmjaaGreatDoorChgAZc
import Derived.Test.YtiiklnghnifmjaaGreatDoorDecDZc
set_option linter.unusedVariables false
set_option maxRecDepth 100000
set_option maxHeartbeats 1000000
set_option linter.unusedSimpArgs false
namespace Go.Proofs.YtiiklnghnifmjaaGreatDoor.Act
open Go.RowKit Go.Proofs.YtiiklnghnifmjaaGreatDoor.Sx Go.Proofs.YtiiklnghnifmjaaGreatDoor.Cod Go.Proofs.YtiiklnghnifmjaaGreatDoor.Num
theorem ty4 : TyI Tryz.prog 4 (.bool false) 1 1 false := ⟨by kernel_rfl, _, Tryz.underlying4, rfl⟩
theorem bequal_calls (w0 : World) {ok1 : Nat → Prop} {A1 : Option Addr} {xs1 : List Int} {c1 : Nat} (hr1 : Rd (.int .u8) w0 ok1 A1 xs1 c1) {ok2 : Nat → Prop} {A2 : Option Addr} {xs2 : List Int} {c2 : Nat} (hr2 : Rd (.int .u8) w0 ok2 A2 xs2 c2) (hb1 : Byte xs1) (hb2 : Byte xs2) : Calls Tryz.prog 40 #[.slice A1 xs1.length c1, .slice A2 xs2.length c2] w0 fun e w' => e = .returned (.bool (decide (xs1 = xs2))) ∧ Mods (fun _ => False) w0 w' := by
 refine cow Tryz.func40 rfl Tryz.ntmps40 (Nat.le_of_ble_eq_true rfl) fun a F => ?_
 have H := Hp.nil (fun _ => False) w0
 have H := H.arg 901 hr1.all (fun _ h => ⟨h, fun h => h⟩)
 have hle901 := hr1.le; unfold maxLen at hle901
 have H := H.arg 902 hr2.all (fun _ h => ⟨h, fun h => h⟩)
 have hle902 := hr2.le; unfold maxLen at hle902
 refine sr fun _ hK1 => la F rfl (x_assign rfl) fun a F => wn (hK1 _ _ (sr fun _ hK2 => la F rfl (x_move (F.t 0 rfl)) fun a F => la F rfl (x_b2s Tryz.underlying27 Tryz.underlying5 Tryz.underlying9 ((H.rd 901 rfl)) (F.t 5 rfl)) fun a F => la F rfl (x_move (F.t 1 rfl)) fun a F => la F rfl (x_b2s Tryz.underlying27 Tryz.underlying5 Tryz.underlying9 ((H.rd 902 rfl)) (F.t 7 rfl)) fun a F => ?_))
 refine la F rfl (x_eqn (xs := xs1) (ys := xs2) (F.t 6 rfl) (F.t 8 rfl) hb1 hb2) fun a F => la F rfl (x_assign (F.t 9 rfl)) fun a F => wn (hK2 _ _ ?_)
 refine wp_ret ?_
 try simp only [Exit.then, Exit.inBlock]
 exact fin_ret F (res1 F rfl rfl) ⟨rfl, H.mods⟩
theorem dfind_calls (w0 : World) (tag : Int) {ok : Nat → Prop} {A : Option Addr} {xs : List Fld} {c : Nat} (hr : Rd FE w0 ok A xs c) (hsh : short xs = true) : Calls Tryz.prog 37 #[.slice A xs.length c, .int .i64 tag] w0 fun e w' => ∃ v, e = .returned (.tuple #[v, .bool (findI xs tag).isSome]) ∧ Mods (fun _ => False) w0 w' ∧ RowOut (.int .u8) 5 w0 w' v (fnd xs tag) := find_calls w0 tag hr hsh
theorem dtext_calls (w0 : World) {ok : Nat → Prop} {A : Option Addr} {xs : List Fld} {c : Nat} (hr : Rd FE w0 ok A xs c) {bl : Nat} (hbl : w0.heap[bl]? = some (.cells #[.slice A xs.length c] 60 (0, 0))) (hsh : short xs = true) (tag : Int) : Calls Tryz.prog 74 #[.int .i64 tag, .pointer (some ⟨bl, 0, none⟩)] w0 fun e w' => e = .returned (.string (strOfNums (fnd xs tag))) ∧ Mods (fun _ => False) w0 w' := by
 refine cow Tryz.func74 rfl Tryz.ntmps74 (Nat.le_of_ble_eq_true rfl) fun a F => ?_
 have H := Hp.nil (fun _ => False) w0
 have H := H.arg 901 hr.all (fun _ h => ⟨h, fun h => h⟩)
 have hle901 := hr.le; unfold maxLen at hle901
 have H := H.seen 1 ((Asn.blk bl (.cells #[.slice A xs.length c] 60 (0, 0))).ro) (fun _ h => h) hbl (fun kb hk => by rcases hk with hk | hk; (rw [show kb = bl from hk]; exact (Array.getElem?_eq_some_iff.1 hbl).1); exact hk.elim) (fun i A' hA kb hk _ => by rcases get_one hA with ⟨_, rfl⟩ | ⟨_, h⟩; exact hk; simp [Sx.get] at h)
 refine sr fun _ hK1 => la F rfl (x_assign (show _ = Value.string (strOfNums ([] : List Int)) by kernel_rfl)) fun a F => wn (hK1 _ _ (sr fun _ hK2 => la F rfl (x_load1 ty60 (F.t 1 rfl) (blk_cell (H.atro 1 rfl) 0 rfl)) fun a F => la F rfl (x_move (F.t 0 rfl)) fun a F => ?_))
 refine lp rfl ?_
 refine w_call F (x_enter Tryz.func37 (by kernel_rfl) rfl (by simp only [bM, F.t 7 rfl, F.t 8 rfl] <;> rfl)) (dfind_calls _ tag ((H.rd 901 rfl)) hsh) rfl rfl ?_
 rintro _ w ⟨vr6, rfl, hm_, hr_⟩; refine ⟨_, rfl, ?_⟩; clear F; intro a F; have H := Hp.rowOut H 6 hm_ hr_; obtain ⟨Ar6, cr6, rfl⟩ := (H.row 6 rfl).form
 refine la F rfl (x_move (F.t 9 rfl)) fun a F => la F rfl (x_extract (F.t 6 rfl) rfl) fun a F => la F rfl (x_extract (F.t 6 rfl) rfl) fun a F => la F rfl (x_assign (F.t 10 rfl)) fun a F => la F rfl (x_assign (F.t 11 rfl)) fun a F => wn (hK2 _ _ (sr fun _ hK3 => la F rfl (x_move (F.t 4 rfl)) fun a F => ?_))
 refine la F rfl (x_b2s Tryz.underlying27 Tryz.underlying5 Tryz.underlying9 (Row.rd (ok' := fun k_ => (fun _ => False) k_ ∨ (.slice Ar6 (fnd xs tag).length cr6 : Value).ownBlock = some k_) (H.row 6 rfl) (fun _ hk_ _ => .inl hk_) (fun _ hk_ => .inr hk_)) (F.t 12 rfl)) fun a F => la F rfl (x_assign (F.t 13 rfl)) fun a F => wn (hK3 _ _ ?_)
 refine wp_ret ?_
 try simp only [Exit.then, Exit.inBlock]
 exact fin_ret F (res1 F rfl rfl) ⟨rfl, H.mods⟩
theorem number_calls2 (w0 : World) {ok : Nat → Prop} {A : Option Addr} {xs : List Fld} {c : Nat} (hr : Rd FE w0 ok A xs c) {bl : Nat} (hbl : w0.heap[bl]? = some (.cells #[.slice A xs.length c] 60 (0, 0))) {bo : Nat} {q : Bool} (hbo : w0.heap[bo]? = some (.cells #[.bool q] 4 (0, 0))) (hne : bl ≠ bo) (hok : ∀ k, ok k → k < w0.heap.size) (hne2 : ∀ k, ok k → ¬ k = bo) (hsh : short xs = true) (hbf : ∀ f ∈ xs, Byte f.2) (tag : Int) : Calls Tryz.prog 75 #[.int .i64 tag, .pointer (some ⟨bl, 0, none⟩), .pointer (some ⟨bo, 0, none⟩)] w0 fun e w' => e = .returned (.int .u64 (numV (fnd xs tag))) ∧ Mods (fun k => k = bo) w0 w' ∧ w'.heap[bo]? = some (.cells #[.bool (q && numOk (fnd xs tag))] 4 (0, 0)) := by
 refine cow Tryz.func75 rfl Tryz.ntmps75 (Nat.le_of_ble_eq_true rfl) fun a F => ?_
 have H := Hp.ownblk 2 hbo
 have H := H.seen 1 ((Asn.blk bl (.cells #[.slice A xs.length c] 60 (0, 0))).ro) (fun _ h => h) hbl (fun kb hk => by rcases hk with hk | hk; (rw [show kb = bl from hk]; exact (Array.getElem?_eq_some_iff.1 hbl).1); exact hk.elim) (fun i A' hA kb hk hk2 => by rcases get_one hA with ⟨_, rfl⟩ | ⟨_, h⟩; rcases hk2 with hk2 | hk2; exact hne ((show kb = bl from hk2).symm.trans hk); exact hk2.elim; simp [Sx.get] at h)
 have H := H.readable 901 hr hok (fun i X hX k hk hk2 => by rw [Sx.get_cons] at hX; split at hX; (cases hX; exact hk); rcases get_one hX with ⟨_, rfl⟩ | ⟨_, h⟩; exact hne2 k hk2 hk; simp [Sx.get] at h)
 have hle901 := hr.le; unfold maxLen at hle901
 refine sr fun _ hK1 => la F rfl (x_assign rfl) fun a F => wn (hK1 _ _ (sr fun _ hK2 => la F rfl (x_load1 ty60 (F.t 1 rfl) (blk_cell (H.atro 1 rfl) 0 rfl)) fun a F => la F rfl (x_move (F.t 0 rfl)) fun a F => ?_))
 refine lp rfl ?_
 refine w_call F (x_enter Tryz.func37 (by kernel_rfl) rfl (by simp only [bM, F.t 10 rfl, F.t 11 rfl] <;> rfl)) (dfind_calls _ tag ((H.rd 901 rfl)) hsh) rfl rfl ?_
 rintro _ w ⟨vr9, rfl, hm_, hr_⟩; refine ⟨_, rfl, ?_⟩; clear F; intro a F; have H := Hp.rowOut H 9 hm_ hr_; obtain ⟨Ar9, cr9, rfl⟩ := (H.row 9 rfl).form
 refine la F rfl (x_move (F.t 12 rfl)) fun a F => la F rfl (x_extract (F.t 9 rfl) rfl) fun a F => la F rfl (x_extract (F.t 9 rfl) rfl) fun a F => la F rfl (x_assign (F.t 13 rfl)) fun a F => la F rfl (x_assign (F.t 14 rfl)) fun a F => wn (hK2 _ _ (sr fun _ hK3 => la F rfl (x_move (F.t 5 rfl)) fun a F => ?_))
 refine lp rfl ?_
 refine w_call F (x_enter Tryz.func38 (by kernel_rfl) rfl (by simp only [bM, F.t 16 rfl] <;> rfl)) (num_calls _ (Row.rd (ok' := fun k_ => (fun _ => False) k_ ∨ (.slice Ar9 (fnd xs tag).length cr9 : Value).ownBlock = some k_) (H.row 9 rfl) (fun _ hk_ _ => .inl hk_) (fun _ hk_ => .inr hk_)) (fnd_byte hbf tag)) rfl rfl ?_
 rintro _ w ⟨rfl, hm_⟩; refine ⟨_, rfl, ?_⟩; clear F; intro a F; have H := H.same hm_
 refine la F rfl (x_move (F.t 17 rfl)) fun a F => la F rfl (x_extract (F.t 15 rfl) rfl) fun a F => la F rfl (x_extract (F.t 15 rfl) rfl) fun a F => la F rfl (x_assign (F.t 18 rfl)) fun a F => la F rfl (x_assign (F.t 19 rfl)) fun a F => wn (hK3 _ _ (sr fun _ hK4 => la F rfl (x_load1 ty4 (F.t 2 rfl) (blk_cell (H.at 2 rfl) 0 rfl)) fun a F => ?_))
 refine la F rfl (x_move (F.t 20 rfl)) fun a F => ?_
 refine split_bool F 21 rfl (fun hb21 => ?_) (fun hb21 => ?_)
 ·have hc21 := hb21; try simp only [bL] at hc21
  refine lgs F hb21 rfl (x_move (F.t 8 rfl)) fun a F => la F rfl (x_pickT (F.t 21 rfl) hb21 (F.t 22 rfl)) fun a F => ?_
  refine lp rfl ?_
  refine w_store 2 H ty4 rfl (F.t 2 rfl) (F.t 23 rfl) rfl (one1 rfl rfl) (by first | decide | exact Nat.le_of_ble_eq_true rfl) ?_
  clear H; intro w H
  refine wn (hK4 _ _ (sr fun _ hK5 => la F rfl (x_move (F.t 7 rfl)) fun a F => la F rfl (x_assign (F.t 24 rfl)) fun a F => wn (hK5 _ _ ?_)))
  refine wp_ret ?_
  try simp only [Exit.then, Exit.inBlock]
  have hv : ((numOk (fnd xs tag))) = (q && numOk (fnd xs tag)) := by simp [hc21]
  rw [hv] at H
  exact fin_ret F (res1 F rfl rfl) ⟨rfl, H.mods, H.at 2 rfl⟩
 have hc21 := hb21; try simp only [bL] at hc21
 refine los F hb21 rfl fun a F => la F rfl (x_pickF (F.t 21 rfl) hb21 rfl) fun a F => ?_
 refine lp rfl ?_
 refine w_store 2 H ty4 rfl (F.t 2 rfl) (F.t 23 rfl) rfl (one1 rfl rfl) (by first | decide | exact Nat.le_of_ble_eq_true rfl) ?_
 clear H; intro w H
 refine wn (hK4 _ _ (sr fun _ hK6 => la F rfl (x_move (F.t 7 rfl)) fun a F => la F rfl (x_assign (F.t 24 rfl)) fun a F => wn (hK6 _ _ ?_)))
 refine wp_ret ?_
 try simp only [Exit.then, Exit.inBlock]
 have hv : (false) = (q && numOk (fnd xs tag)) := by simp [hc21]
 rw [hv] at H
 exact fin_ret F (res1 F rfl rfl) ⟨rfl, H.mods, H.at 2 rfl⟩
theorem decC_calls (w0 : World) (hL : LibAt true w0) {ok : Nat → Prop} {A : Option Addr} {bs : List Int} {c : Nat} (hrb : Rd (.int .u8) w0 ok A bs c) (hby : Byte bs) : Calls Tryz.prog 39 #[.slice A bs.length c] w0 fun e w' => ∃ (x : ChangeD) (Ad : Option Addr) (cd : Nat) (g : Int), e = .returned (.tuple #[.agg #[.int .i64 x.kind, .string (strOfNums x.key), .string (strOfNums x.value), .string (strOfNums x.timer.name), .int .i64 x.timer.ver, .int .u64 x.timer.tick, .int .u64 x.timer.every, .slice Ad x.timer.steps.length cd], .int .i64 g]) ∧ Mods (fun _ => False) w0 w' ∧ RowOut StE 91 w0 w' (.slice Ad x.timer.steps.length cd) x.timer.steps ∧ DecC bs x g := by
 refine cow Tryz.func39 rfl Tryz.ntmps39 (Nat.le_of_ble_eq_true rfl) fun a F => ?_
 have H := Hp.nil (fun _ => False) w0
 have H := H.arg 901 hrb.all (fun _ h => ⟨h, fun h => h⟩)
 have hleb := hrb.le; unfold maxLen at hleb
 have H := H.libN 990 hL
 refine sr fun _ hK1 => ?_
 refine lp rfl ?_
 refine w_alloc 2 F H rfl ty66 ?_
 clear F H; intro a w b2 F H
 refine la F rfl (x_assign rfl) fun a F => wn (hK1 _ _ (sr fun _ hK2 => la F rfl (x_move (F.t 0 rfl)) fun a F => ?_))
 refine lp rfl ?_
 refine w_call F (x_enter Tryz.func36 (by kernel_rfl) rfl (by simp only [bM, F.t 18 rfl] <;> rfl)) (dec_calls _ ((H.rd 901 rfl)) hby) rfl rfl ?_
 rintro _ w ⟨vr17, rfl, hm_, okr17, hr_, hf_, ho17_⟩; refine ⟨_, rfl, ?_⟩; clear F; intro a F; have H := H.newRow 17 hm_ hr_ hf_ ho17_; obtain ⟨Ar17, cr17, rfl⟩ := (H.row 17 rfl).form
 refine la F rfl (x_move (F.t 19 rfl)) fun a F => la F rfl (x_extract (F.t 17 rfl) rfl) fun a F => la F rfl (x_extract (F.t 17 rfl) rfl) fun a F => ?_
 refine lp rfl ?_
 refine w_alloc 4 F H rfl ty60 ?_
 clear F H; intro a w b4 F H
 refine lp rfl ?_
 refine w_store 4 H ty60 rfl (F.t 4 rfl) (F.t 20 rfl) rfl (one1 rfl rfl) (by first | decide | exact Nat.le_of_ble_eq_true rfl) ?_
 clear H; intro w H
 refine la F rfl (x_assign (F.t 21 rfl)) fun a F => wn (hK2 _ _ ?_)
 refine wp_seq_k fun _ hK3 => ?_
 refine sr fun _ hK4 => la F rfl (x_move (F.t 5 rfl)) fun a F => la F rfl (x_neq (F.t 22 rfl) rfl) fun a F => wn (hK4 _ _ ?_)
 refine wp_cond_split (F.t 23 rfl) (fun hc23 => ?_) (fun hc23 => ?_)
 ·have hk23_1 := hc23; try simp only [bL] at hc23
  have hz : NoC bs := noC_none (by cases hd : decR bs with | none => rfl | some l => rw [hd] at hc23; exact absurd rfl hc23)
  refine sr fun _ hK5 => la F rfl (x_buildS (cells := #[.int .i64 0, .string (strOfNums []), .string (strOfNums []), .string (strOfNums []), .int .i64 0, .int .u64 0, .int .u64 0, .slice none 0 0]) (places := #[(0, 1), (1, 1), (2, 1), (3, 5)]) Tryz.underlying66 ty66 (by kernel_rfl) Array.map_empty rfl) fun a F => ?_
  refine lp rfl ?_
  refine w_storeA 2 H ty66 rfl (F.t 2 rfl) (F.t 24 rfl) rfl (by simp [Value.cells, Value.oneCell']) rfl ?_
  clear H; intro w H
  refine la F rfl (x_assign rfl) fun a F => wn (hK5 _ _ ?_)
  refine wp_ret ?_
  try simp only [Exit.then, Exit.inBlock]
  exact fin_ret F (resct F rfl rfl rfl (H.at 2 rfl) ty66 rfl) ⟨⟨0, [], [], ⟨[], 0, 0, 0, []⟩⟩, none, 0, 12, rfl, H.mods, RowOut.nil _ _ _ _, DecC.no hz⟩
 have hk23_2 := hc23; try simp only [bL] at hc23
 obtain ⟨dl, hdl⟩ := dec_zero hc23
 rw [hdl, Option.getD_some] at F H
 have hsh := short_of hby hdl
 have hbf := fld_bytes hby hdl
 have H := H.freeze 17 rfl (fun kb => okr17 kb ∨ (Value.slice Ar17 dl.length cr17).ownBlock = some kb) (fun kb => Iff.rfl)
 refine wp_skip (hK3 _ _ (sr fun _ hK6 => la F rfl (x_load1 ty60 (F.t 4 rfl) (blk_cell (H.at 4 rfl) 0 rfl)) fun a F => ?_))
 refine lp rfl ?_
 refine w_call F (x_enter Tryz.func37 (by kernel_rfl) rfl (by simp only [bM, F.t 26 rfl] <;> rfl)) (dfind_calls _ 1 ((H.rd 17 rfl)) hsh) rfl rfl ?_
 rintro _ w ⟨vr25, rfl, hm_, hr_⟩; refine ⟨_, rfl, ?_⟩; clear F; intro a F; have H := Hp.rowOut H 25 hm_ hr_; obtain ⟨Ar25, cr25, rfl⟩ := (H.row 25 rfl).form
 refine la F rfl (x_move (F.t 27 rfl)) fun a F => la F rfl (x_extract (F.t 25 rfl) rfl) fun a F => la F rfl (x_extract (F.t 25 rfl) rfl) fun a F => la F rfl (x_assign (F.t 28 rfl)) fun a F => ?_
 have H := H.freeze 25 rfl (fun kb => (Value.slice Ar25 (fnd dl 1).length cr25).ownBlock = some kb) (fun kb => ⟨fun h => .inr h, fun h => h.resolve_left id⟩)
 refine la F rfl (x_assign (F.t 29 rfl)) fun a F => wn (hK6 _ _ ?_)
 refine wp_seq_k fun _ hK7 => ?_
 refine sr fun _ hK8 => la F rfl (x_move (F.t 6 rfl)) fun a F => la F rfl (x_len_slice Tryz.underlying27 (F.t 30 rfl)) fun a F => la F rfl (x_neq (F.t 31 rfl) rfl) fun a F => wn (hK8 _ _ ?_)
 refine wp_cond_split (F.t 32 rfl) (fun hc32 => ?_) (fun hc32 => ?_)
 ·have hk32_3 := hc32; try simp only [bL] at hc32
  have hz := noC_kind hdl hc32
  refine sr fun _ hK9 => la F rfl (x_buildS (cells := #[.int .i64 0, .string (strOfNums []), .string (strOfNums []), .string (strOfNums []), .int .i64 0, .int .u64 0, .int .u64 0, .slice none 0 0]) (places := #[(0, 1), (1, 1), (2, 1), (3, 5)]) Tryz.underlying66 ty66 (by kernel_rfl) Array.map_empty rfl) fun a F => ?_
  refine lp rfl ?_
  refine w_storeA 2 H ty66 rfl (F.t 2 rfl) (F.t 33 rfl) rfl (by simp [Value.cells, Value.oneCell']) rfl ?_
  clear H; intro w H
  refine la F rfl (x_assign rfl) fun a F => wn (hK9 _ _ ?_)
  refine wp_ret ?_
  try simp only [Exit.then, Exit.inBlock]
  exact fin_ret F (resct F rfl rfl rfl (H.at 2 rfl) ty66 rfl) ⟨⟨0, [], [], ⟨[], 0, 0, 0, []⟩⟩, none, 0, 12, rfl, H.mods, RowOut.nil _ _ _ _, DecC.no hz⟩
 have hk32_4 := hc32; try simp only [bL] at hc32
 have hl1 : ((fnd dl 1).length : Int) = 1 := by omega
 refine wp_skip (hK7 _ _ (sr fun _ hK10 => ?_))
 refine lp rfl ?_
 refine w_alloc 8 F H rfl ty4 ?_
 clear F H; intro a w b8 F H
 refine lp rfl ?_
 refine w_store 8 H ty4 rfl (F.t 8 rfl) rfl rfl (one1 rfl rfl) (by first | decide | exact Nat.le_of_ble_eq_true rfl) ?_
 clear H; intro w H
 refine wn (hK10 _ _ (sr fun _ hK11 => la F rfl (x_mkfunc (vs := #[.pointer (some ⟨b4, 0, none⟩)]) (by simp only [bM, F.t 4 rfl] <;> rfl)) fun a F => la F rfl (x_assign (F.t 34 rfl)) fun a F => wn (hK11 _ _ (sr fun _ hK12 => la F rfl (x_mkfunc (vs := #[.pointer (some ⟨b4, 0, none⟩), .pointer (some ⟨b8, 0, none⟩)]) (by simp only [bM, F.t 4 rfl, F.t 8 rfl] <;> rfl)) fun a F => la F rfl (x_assign (F.t 35 rfl)) fun a F => ?_))))
 refine wn (hK12 _ _ ?_)
 refine wp_seq_k fun khK13 hK13 => ?_
 have hJr10 : ∀ a w, ∀ b11 : Nat, Fr 97 a [(0, .slice A bs.length c), (2, .pointer (some ⟨b2, 0, none⟩)), (8, .pointer (some ⟨b8, 0, none⟩)), (9, .func (.func 74) #[] #[.pointer (some ⟨b4, 0, none⟩)]), (10, .func (.func 75) #[] #[.pointer (some ⟨b4, 0, none⟩), .pointer (some ⟨b8, 0, none⟩)]), (11, .pointer (some ⟨b11, 0, none⟩))] → Hp (fun _ => False) w0 w [(901, .rd_ (.int .u8) A bs c (fun k => k < w0.heap.size)), (990, .lib true), (2, .blk b2 (.cells #[.int .i64 0, .string (strOfNums []), .string (strOfNums []), .string (strOfNums []), .int .i64 0, .int .u64 0, .int .u64 0, .slice none 0 0] 66 (0, 0))), (17, .rd_ FE Ar17 dl cr17 (fun kb => okr17 kb ∨ (Value.slice Ar17 dl.length cr17).ownBlock = some kb)), (4, .blk b4 (.cells #[.slice Ar17 dl.length cr17] 60 (0, 0))), (25, .rd_ (.int .u8) Ar25 (fnd dl 1) cr25 (fun kb => (Value.slice Ar25 (fnd dl 1).length cr25).ownBlock = some kb)), (8, .blk b8 (.cells #[.bool true] 4 (0, 0))), (11, .blk b11 (.cells #[.int .i64 (gi (fnd dl 1) 0), .string (strOfNums (fnd dl 2)), .string (strOfNums (fnd dl 3)), .string (strOfNums []), .int .i64 0, .int .u64 0, .int .u64 0, .slice none 0 0] 66 (0, 0)))] → khK13 a w := by
  intro a w b11 F H
  refine hK13 a w ?_
  refine wp_seq_k fun _ hK14 => ?_
  refine sr fun _ hK15 => la F rfl (x_faddr Tryz.underlying66 rfl ty61 (by decide) (F.t 11 rfl) rfl) fun a F => la F rfl (x_load1 ty61 (F.t 45 rfl) (blk_cell (H.at 11 rfl) 0 rfl)) fun a F => la F rfl (x_eql (F.t 46 rfl) rfl) fun a F => wn (hK15 _ _ ?_)
  refine wp_cond_split (F.t 47 rfl) (fun hc47 => ?_) (fun hc47 => ?_)
  ·have hk47_5 := hc47; try simp only [bL] at hc47
   have hcc : cOf dl = (⟨(gi (fnd dl 1) 0), fnd dl 2, fnd dl 3, tOfL dl⟩ : ChangeD) := by unfold cOf; rw [if_pos hc47]
   refine sr fun _ hK16 => la F rfl (x_move (F.t 10 rfl)) fun a F => ?_
   refine lp rfl ?_
   refine w_call F (x_enterC (vs := #[.int .i64 5]) (caps := #[.pointer (some ⟨b4, 0, none⟩), .pointer (some ⟨b8, 0, none⟩)]) (args := #[.int .i64 5, .pointer (some ⟨b4, 0, none⟩), .pointer (some ⟨b8, 0, none⟩)]) Tryz.func75 (by kernel_rfl) rfl (F.t 48 rfl) (by simp only [bM] <;> rfl) rfl) (number_calls2 (bl := b4) (bo := b8) (q := true) _ (H.rd 17 rfl) (H.at 4 rfl) (H.at 8 rfl) (fun e => H.sep 4 8 _ _ (by decide) rfl rfl b4 rfl (.inl e)) (fun k hk => H.inb 17 _ rfl k (.inr hk)) (fun k hk e => H.sep 8 17 _ _ (by decide) rfl rfl k e (.inr hk)) hsh hbf 5) rfl rfl ?_
   rintro _ w ⟨rfl, hm_, hb_⟩; refine ⟨_, rfl, ?_⟩; clear F; intro a F; have H := H.put 8 rfl _ hm_ hb_
   refine la F rfl (x_assign (F.t 49 rfl)) fun a F => wn (hK16 _ _ (sr fun _ hK17 => la F rfl (x_move (F.t 9 rfl)) fun a F => ?_))
   refine lp rfl ?_
   refine w_call F (x_enterC (vs := #[.int .i64 8]) (caps := #[.pointer (some ⟨b4, 0, none⟩)]) (args := #[.int .i64 8, .pointer (some ⟨b4, 0, none⟩)]) Tryz.func74 (by kernel_rfl) rfl (F.t 51 rfl) (by simp only [bM] <;> rfl) rfl) (dtext_calls (bl := b4) _ (H.rd 17 rfl) (H.at 4 rfl) hsh 8) rfl rfl ?_
   rintro _ w ⟨rfl, hm_⟩; refine ⟨_, rfl, ?_⟩; clear F; intro a F; have H := H.same hm_
   refine lp rfl ?_
   refine w_s2b 53 (xs := (fnd dl 8)) F H rfl Tryz.underlying9 Tryz.underlying27 Tryz.underlying5 (F.t 52 rfl) (fnd_byte hbf 8) (by have := fnd_len hsh 8; omega) ?_
   clear F H; intro a w b53 c53 hb53_ F H
   refine lp rfl ?_
   refine w_call F (x_enter Tryz.func76 (by kernel_rfl) rfl (by simp only [bM, F.t 53 rfl] <;> rfl)) (adec_calls _ (H.holds 990 _ rfl) ((H.rd 53 rfl)) (fnd_byte hbf 8)) rfl rfl ?_
   rintro _ w ⟨vr50, rfl, hm_, hr_⟩; refine ⟨_, rfl, ?_⟩; clear F; intro a F; have H := Hp.rowOut H 50 hm_ hr_; obtain ⟨Ar50, cr50, rfl⟩ := (H.row 50 rfl).form
   refine la F rfl (x_move (F.t 54 rfl)) fun a F => la F rfl (x_extract (F.t 50 rfl) rfl) fun a F => la F rfl (x_extract (F.t 50 rfl) rfl) fun a F => la F rfl (x_assign (F.t 55 rfl)) fun a F => la F rfl (x_assign (F.t 56 rfl)) fun a F => wn (hK17 _ _ ?_)
   refine wp_seq_k fun khK18 hK18 => ?_
   have hJr14 : ∀ a w, ∀ q : Bool, (q = ((true && numOk (fnd dl 5)) && (decide (numV (fnd dl 5) ≤ 1099511627776) && decide (adE (fnd dl 8) = 0)))) → Fr 97 a [(0, .slice A bs.length c), (2, .pointer (some ⟨b2, 0, none⟩)), (8, .pointer (some ⟨b8, 0, none⟩)), (9, .func (.func 74) #[] #[.pointer (some ⟨b4, 0, none⟩)]), (10, .func (.func 75) #[] #[.pointer (some ⟨b4, 0, none⟩), .pointer (some ⟨b8, 0, none⟩)]), (11, .pointer (some ⟨b11, 0, none⟩)), (12, .int .u64 (numV (fnd dl 5))), (13, .slice Ar50 ((adecR (fnd dl 8)).getD []).length cr50)] → Hp (fun _ => False) w0 w [(901, .rd_ (.int .u8) A bs c (fun k => k < w0.heap.size)), (990, .lib true), (2, .blk b2 (.cells #[.int .i64 0, .string (strOfNums []), .string (strOfNums []), .string (strOfNums []), .int .i64 0, .int .u64 0, .int .u64 0, .slice none 0 0] 66 (0, 0))), (17, .rd_ FE Ar17 dl cr17 (fun kb => okr17 kb ∨ (Value.slice Ar17 dl.length cr17).ownBlock = some kb)), (4, .blk b4 (.cells #[.slice Ar17 dl.length cr17] 60 (0, 0))), (25, .rd_ (.int .u8) Ar25 (fnd dl 1) cr25 (fun kb => (Value.slice Ar25 (fnd dl 1).length cr25).ownBlock = some kb)), (8, .blk b8 (.cells #[.bool q] 4 (0, 0))), (11, .blk b11 (.cells #[.int .i64 (gi (fnd dl 1) 0), .string (strOfNums (fnd dl 2)), .string (strOfNums (fnd dl 3)), .string (strOfNums []), .int .i64 0, .int .u64 0, .int .u64 0, .slice none 0 0] 66 (0, 0))), (53, .rd_ (.int .u8) (some ⟨b53, 0, none⟩) (fnd dl 8) c53 (fun kb => kb = b53)), (50, .row StE 91 (.slice Ar50 ((adecR (fnd dl 8)).getD []).length cr50) ((adecR (fnd dl 8)).getD []) (fun _ => False))] → khK18 a w := by
    intro a w q hjr14_0 F H
    refine hK18 a w ?_
    subst hjr14_0
    refine wp_region_lit ?_
    refine la F rfl (x_move (F.t 9 rfl)) fun a F => ?_
    refine lp rfl ?_
    refine w_call F (x_enterC (vs := #[.int .i64 4]) (caps := #[.pointer (some ⟨b4, 0, none⟩)]) (args := #[.int .i64 4, .pointer (some ⟨b4, 0, none⟩)]) Tryz.func74 (by kernel_rfl) rfl (F.t 66 rfl) (by simp only [bM] <;> rfl) rfl) (dtext_calls (bl := b4) _ (H.rd 17 rfl) (H.at 4 rfl) hsh 4) rfl rfl ?_
    rintro _ w ⟨rfl, hm_⟩; refine ⟨_, rfl, ?_⟩; clear F; intro a F; have H := H.same hm_
    refine la F rfl (x_move (F.t 12 rfl)) fun a F => la F rfl (x_min2 (F.t 68 rfl) rfl) fun a F => la F rfl (x_conv Tryz.underlying3 ⟨_, Tryz.underlying59⟩ (F.t 69 rfl) (w64 (by have := numV_range (fnd_byte hbf 5); unfold mn; split <;> omega) (by have := numV_range (fnd_byte hbf 5); unfold mn; split <;> omega))) fun a F => la F rfl (x_move (F.t 10 rfl)) fun a F => ?_
    refine lp rfl ?_
    refine w_call F (x_enterC (vs := #[.int .i64 6]) (caps := #[.pointer (some ⟨b4, 0, none⟩), .pointer (some ⟨b8, 0, none⟩)]) (args := #[.int .i64 6, .pointer (some ⟨b4, 0, none⟩), .pointer (some ⟨b8, 0, none⟩)]) Tryz.func75 (by kernel_rfl) rfl (F.t 71 rfl) (by simp only [bM] <;> rfl) rfl) (number_calls2 (bl := b4) (bo := b8) (q := ((true && numOk (fnd dl 5)) && (decide (numV (fnd dl 5) ≤ 1099511627776) && decide (adE (fnd dl 8) = 0)))) _ (H.rd 17 rfl) (H.at 4 rfl) (H.at 8 rfl) (fun e => H.sep 4 8 _ _ (by decide) rfl rfl b4 rfl (.inl e)) (fun k hk => H.inb 17 _ rfl k (.inr hk)) (fun k hk e => H.sep 8 17 _ _ (by decide) rfl rfl k e (.inr hk)) hsh hbf 6) rfl rfl ?_
    rintro _ w ⟨rfl, hm_, hb_⟩; refine ⟨_, rfl, ?_⟩; clear F; intro a F; have H := H.put 8 rfl _ hm_ hb_
    refine la F rfl (x_move (F.t 10 rfl)) fun a F => ?_
    refine lp rfl ?_
    refine w_call F (x_enterC (vs := #[.int .i64 7]) (caps := #[.pointer (some ⟨b4, 0, none⟩), .pointer (some ⟨b8, 0, none⟩)]) (args := #[.int .i64 7, .pointer (some ⟨b4, 0, none⟩), .pointer (some ⟨b8, 0, none⟩)]) Tryz.func75 (by kernel_rfl) rfl (F.t 73 rfl) (by simp only [bM] <;> rfl) rfl) (number_calls2 (bl := b4) (bo := b8) (q := (((true && numOk (fnd dl 5)) && (decide (numV (fnd dl 5) ≤ 1099511627776) && decide (adE (fnd dl 8) = 0))) && numOk (fnd dl 6))) _ (H.rd 17 rfl) (H.at 4 rfl) (H.at 8 rfl) (fun e => H.sep 4 8 _ _ (by decide) rfl rfl b4 rfl (.inl e)) (fun k hk => H.inb 17 _ rfl k (.inr hk)) (fun k hk e => H.sep 8 17 _ _ (by decide) rfl rfl k e (.inr hk)) hsh hbf 7) rfl rfl ?_
    rintro _ w ⟨rfl, hm_, hb_⟩; refine ⟨_, rfl, ?_⟩; clear F; intro a F; have H := H.put 8 rfl _ hm_ hb_
    refine la F rfl (x_move (F.t 13 rfl)) fun a F => la F rfl (x_buildS (cells := #[.string (strOfNums (fnd dl 4)), .int .i64 (mn (numV (fnd dl 5)) 1099511627776), .int .u64 (numV (fnd dl 6)), .int .u64 (numV (fnd dl 7)), .slice Ar50 ((adecR (fnd dl 8)).getD []).length cr50]) (places := #[(0, 1), (1, 1), (2, 1), (3, 1), (4, 1)]) Tryz.underlying64 ty64 (by kernel_rfl) (by simp only [bM, F.t 67 rfl, F.t 70 rfl, F.t 72 rfl, F.t 74 rfl, F.t 75 rfl] <;> rfl) rfl) fun a F => la F rfl (x_faddr Tryz.underlying66 rfl ty64 (by decide) (F.t 11 rfl) rfl) fun a F => ?_
    refine lp rfl ?_
    refine w_store 11 H ty64 rfl (F.t 77 rfl) (F.t 76 rfl) rfl (by simp [Value.cells, Value.oneCell']) (by first | decide | exact Nat.le_of_ble_eq_true rfl) ?_
    clear H; intro w H
    refine wn (hK14 _ _ ?_)
    refine wp_seq_k fun _ hK19 => ?_
    refine sr fun _ hK20 => ?_
    have H : Hp (fun _ => False) w0 _ [(901, .rd_ (.int .u8) A bs c (fun k => k < w0.heap.size)), (990, .lib true), (2, .blk b2 (.cells #[.int .i64 0, .string (strOfNums []), .string (strOfNums []), .string (strOfNums []), .int .i64 0, .int .u64 0, .int .u64 0, .slice none 0 0] 66 (0, 0))), (17, .rd_ FE Ar17 dl cr17 (fun kb => okr17 kb ∨ (Value.slice Ar17 dl.length cr17).ownBlock = some kb)), (4, .blk b4 (.cells #[.slice Ar17 dl.length cr17] 60 (0, 0))), (25, .rd_ (.int .u8) Ar25 (fnd dl 1) cr25 (fun kb => (Value.slice Ar25 (fnd dl 1).length cr25).ownBlock = some kb)), (8, .blk b8 (.cells #[.bool ((((true && numOk (fnd dl 5)) && (decide (numV (fnd dl 5) ≤ 1099511627776) && decide (adE (fnd dl 8) = 0))) && numOk (fnd dl 6)) && numOk (fnd dl 7))] 4 (0, 0))), (11, .blk b11 (.cells #[.int .i64 (gi (fnd dl 1) 0), .string (strOfNums (fnd dl 2)), .string (strOfNums (fnd dl 3)), .string (strOfNums (fnd dl 4)), .int .i64 (mn (numV (fnd dl 5)) 1099511627776), .int .u64 (numV (fnd dl 6)), .int .u64 (numV (fnd dl 7)), .slice Ar50 ((adecR (fnd dl 8)).getD []).length cr50] 66 (0, 0))), (53, .rd_ (.int .u8) (some ⟨b53, 0, none⟩) (fnd dl 8) c53 (fun kb => kb = b53)), (50, .row StE 91 (.slice Ar50 ((adecR (fnd dl 8)).getD []).length cr50) ((adecR (fnd dl 8)).getD []) (fun _ => False))] := H.sub _ (sub_cons (sub_cons (sub_cons (sub_cons (sub_cons (sub_cons (sub_cons (sub_cons (sub_cons (sub_cons (sub_nil _) 50 rfl) 53 rfl) 11 rfl) 8 rfl) 25 rfl) 4 rfl) 17 rfl) 2 rfl) 990 rfl) 901 rfl)
    refine la F rfl (x_loadn ty66 (F.t 11 rfl) rfl (blk_whole (H.at 11 rfl))) fun a F => ?_
    refine lp rfl ?_
    refine w_call F (x_enter Tryz.func29 (by kernel_rfl) rfl (by simp only [bM, F.t 79 rfl] <;> rfl)) (encC_calls (c := (⟨(gi (fnd dl 1) 0), fnd dl 2, fnd dl 3, tOfL dl⟩ : ChangeD)) _ (H.holds 990 _ rfl) (Row.rd (ok' := fun k_ => (fun _ => False) k_ ∨ (.slice Ar50 ((adecR (fnd dl 8)).getD []).length cr50 : Value).ownBlock = some k_) (H.row 50 rfl) (fun _ hk_ _ => .inl hk_) (fun _ hk_ => .inr hk_)) (hcc ▸ cOf_B hbf)) rfl rfl ?_
    rintro _ w ⟨vr80, rfl, hm_, hr_⟩; refine ⟨_, rfl, ?_⟩; clear F; intro a F; have H := Hp.rowOut H 80 hm_ hr_; obtain ⟨Ar80, cr80, rfl⟩ := (H.row 80 rfl).form
    refine la F rfl (x_move (F.t 80 rfl)) fun a F => la F rfl (x_extract (F.t 78 rfl) rfl) fun a F => la F rfl (x_extract (F.t 78 rfl) rfl) fun a F => la F rfl (x_assign (F.t 81 rfl)) fun a F => la F rfl (x_assign (F.t 82 rfl)) fun a F => wn (hK20 _ _ (sr fun _ hK21 => la F rfl (x_load1 ty4 (F.t 8 rfl) (blk_cell (H.at 8 rfl) 0 rfl)) fun a F => ?_))
    refine la F rfl (x_not (F.t 83 rfl)) fun a F => la F rfl (x_move (F.t 84 rfl)) fun a F => ?_
    refine split_bool F 85 rfl (fun hb85 => ?_) (fun hb85 => ?_)
    ·have hc85 := hb85; try simp only [bL] at hc85
     refine los F hb85 rfl fun a F => los F hb85 rfl fun a F => la F rfl (x_pickT (F.t 85 rfl) hb85 rfl) fun a F => la F rfl (x_move (F.t 88 rfl)) fun a F => lo F rfl fun a F => lo F rfl fun a F => lo F rfl fun a F => lo F rfl fun a F => ?_
     refine la F rfl (x_pickT (F.t 89 rfl) rfl rfl) fun a F => wn (hK21 _ _ ?_)
     refine wp_cond_true (F.t 94 rfl) ?_
     refine sr fun _ hK22 => la F rfl (x_buildS (cells := #[.int .i64 0, .string (strOfNums []), .string (strOfNums []), .string (strOfNums []), .int .i64 0, .int .u64 0, .int .u64 0, .slice none 0 0]) (places := #[(0, 1), (1, 1), (2, 1), (3, 5)]) Tryz.underlying66 ty66 (by kernel_rfl) Array.map_empty rfl) fun a F => ?_
     refine lp rfl ?_
     refine w_storeA 2 H ty66 rfl (F.t 2 rfl) (F.t 95 rfl) rfl (by simp [Value.cells, Value.oneCell']) rfl ?_
     clear H; intro w H
     refine la F rfl (x_assign rfl) fun a F => wn (hK22 _ _ ?_)
     refine wp_ret ?_
     try simp only [Exit.then, Exit.inBlock]
     have hz : NoC bs := noC_end hdl (fun hq => by
             obtain ⟨q1, q2, q3⟩ := hq
             rw [hcc] at q2 q3
             unfold okOf at q1
             rw [if_pos hc47] at q1
             simp only [Bool.and_eq_true, decide_eq_true_eq] at q1
             obtain ⟨a1, a2, a3, a4, a5⟩ := q1
             first | (simp [a1, a2, a3, a4, a5, q2, q3, adE] at hc85; done))
     exact fin_ret F (resct F rfl rfl rfl (H.at 2 rfl) ty66 rfl) ⟨⟨0, [], [], ⟨[], 0, 0, 0, []⟩⟩, none, 0, 12, rfl, H.mods, RowOut.nil _ _ _ _, DecC.no hz⟩
    have hc85 := hb85; try simp only [bL] at hc85
    refine lgs F hb85 rfl (x_move (F.t 16 rfl)) fun a F => lgs F hb85 rfl (x_neq (F.t 86 rfl) rfl) fun a F => la F rfl (x_pickF (F.t 85 rfl) hb85 (F.t 87 rfl)) fun a F => la F rfl (x_move (F.t 88 rfl)) fun a F => ?_
    refine split_bool F 89 rfl (fun hb89 => ?_) (fun hb89 => ?_)
    ·have hc89 := hb89; try simp only [bL] at hc89
     refine los F hb89 rfl fun a F => los F hb89 rfl fun a F => los F hb89 rfl fun a F => los F hb89 rfl fun a F => la F rfl (x_pickT (F.t 89 rfl) hb89 rfl) fun a F => wn (hK21 _ _ ?_)
     refine wp_cond_true (F.t 94 rfl) ?_
     refine sr fun _ hK23 => la F rfl (x_buildS (cells := #[.int .i64 0, .string (strOfNums []), .string (strOfNums []), .string (strOfNums []), .int .i64 0, .int .u64 0, .int .u64 0, .slice none 0 0]) (places := #[(0, 1), (1, 1), (2, 1), (3, 5)]) Tryz.underlying66 ty66 (by kernel_rfl) Array.map_empty rfl) fun a F => ?_
     refine lp rfl ?_
     refine w_storeA 2 H ty66 rfl (F.t 2 rfl) (F.t 95 rfl) rfl (by simp [Value.cells, Value.oneCell']) rfl ?_
     clear H; intro w H
     refine la F rfl (x_assign rfl) fun a F => wn (hK23 _ _ ?_)
     refine wp_ret ?_
     try simp only [Exit.then, Exit.inBlock]
     have hz : NoC bs := noC_end hdl (fun hq => by
              obtain ⟨q1, q2, q3⟩ := hq
              rw [hcc] at q2 q3
              unfold okOf at q1
              rw [if_pos hc47] at q1
              simp only [Bool.and_eq_true, decide_eq_true_eq] at q1
              obtain ⟨a1, a2, a3, a4, a5⟩ := q1
              first | (simp [a1, a2, a3, a4, a5, q2, q3, adE] at hc89; done) | (simp [a1, a2, a3, a4, a5, q2, q3, adE] at hc85; done))
     exact fin_ret F (resct F rfl rfl rfl (H.at 2 rfl) ty66 rfl) ⟨⟨0, [], [], ⟨[], 0, 0, 0, []⟩⟩, none, 0, 12, rfl, H.mods, RowOut.nil _ _ _ _, DecC.no hz⟩
    have hc89 := hb89; try simp only [bL] at hc89
    refine lgs F hb89 rfl (x_move (F.t 15 rfl)) fun a F => lgs F hb89 rfl (x_move (F.t 0 rfl)) fun a F => ?_
    refine lpo ((wo F rfl).trans (by rw [hb89]; rfl)) ?_
    refine w_call F (x_enter Tryz.func40 (by kernel_rfl) rfl (by simp only [bM, F.t 90 rfl, F.t 91 rfl] <;> rfl)) (bequal_calls _ (Row.rd (ok' := fun k_ => (fun _ => False) k_ ∨ (.slice Ar80 (encC (⟨(gi (fnd dl 1) 0), fnd dl 2, fnd dl 3, tOfL dl⟩ : ChangeD)).length cr80 : Value).ownBlock = some k_) (H.row 80 rfl) (fun _ hk_ _ => .inl hk_) (fun _ hk_ => .inr hk_)) ((H.rd 901 rfl)) (encC_byte (hcc ▸ cOf_B hbf)) hby) rfl rfl ?_
    rintro _ w ⟨rfl, hm_⟩; refine ⟨_, rfl, ?_⟩; clear F; intro a F; have H := H.same hm_
    refine lgs F hb89 rfl (x_not (F.t 92 rfl)) fun a F => la F rfl (x_pickF (F.t 89 rfl) hb89 (F.t 93 rfl)) fun a F => wn (hK21 _ _ ?_)
    refine wp_cond_split (F.t 94 rfl) (fun hc94 => ?_) (fun hc94 => ?_)
    ·have hk94_6 := hc94; try simp only [bL] at hc94
     refine sr fun _ hK24 => la F rfl (x_buildS (cells := #[.int .i64 0, .string (strOfNums []), .string (strOfNums []), .string (strOfNums []), .int .i64 0, .int .u64 0, .int .u64 0, .slice none 0 0]) (places := #[(0, 1), (1, 1), (2, 1), (3, 5)]) Tryz.underlying66 ty66 (by kernel_rfl) Array.map_empty rfl) fun a F => ?_
     refine lp rfl ?_
     refine w_storeA 2 H ty66 rfl (F.t 2 rfl) (F.t 95 rfl) rfl (by simp [Value.cells, Value.oneCell']) rfl ?_
     clear H; intro w H
     refine la F rfl (x_assign rfl) fun a F => wn (hK24 _ _ ?_)
     refine wp_ret ?_
     try simp only [Exit.then, Exit.inBlock]
     have hz : NoC bs := noC_end hdl (fun hq => by
               obtain ⟨q1, q2, q3⟩ := hq
               rw [hcc] at q2 q3
               unfold okOf at q1
               rw [if_pos hc47] at q1
               simp only [Bool.and_eq_true, decide_eq_true_eq] at q1
               obtain ⟨a1, a2, a3, a4, a5⟩ := q1
               first | (simp [a1, a2, a3, a4, a5, q2, q3, adE] at hc94; done) | (simp [a1, a2, a3, a4, a5, q2, q3, adE] at hc89; done) | (simp [a1, a2, a3, a4, a5, q2, q3, adE] at hc85; done))
     exact fin_ret F (resct F rfl rfl rfl (H.at 2 rfl) ty66 rfl) ⟨⟨0, [], [], ⟨[], 0, 0, 0, []⟩⟩, none, 0, 12, rfl, H.mods, RowOut.nil _ _ _ _, DecC.no hz⟩
    have hk94_7 := hc94; try simp only [bL] at hc94
    refine wp_skip (hK19 _ _ (sr fun _ hK25 => la F rfl (x_loadn ty66 (F.t 11 rfl) rfl (blk_whole (H.at 11 rfl))) fun a F => ?_))
    refine lp rfl ?_
    refine w_storeA 2 H ty66 rfl (F.t 2 rfl) (F.t 96 rfl) rfl (by simp [Value.cells, Value.oneCell']) rfl ?_
    clear H; intro w H
    refine la F rfl (x_assign rfl) fun a F => wn (hK25 _ _ ?_)
    refine wp_ret ?_
    try simp only [Exit.then, Exit.inBlock]
    have hE : encCE (⟨(gi (fnd dl 1) 0), fnd dl 2, fnd dl 3, tOfL dl⟩ : ChangeD) = 0 := by first | exact hc94 | exact hc89 | exact hc85 | exact hc47 | exact hc32 | exact hc23
    have hX : encC (⟨(gi (fnd dl 1) 0), fnd dl 2, fnd dl 3, tOfL dl⟩ : ChangeD) = bs := by first | exact hc94 | exact hc89 | exact hc85 | exact hc47 | exact hc32 | exact hc23
    exact fin_ret F (resct F rfl rfl rfl (H.at 2 rfl) ty66 rfl) ⟨(⟨(gi (fnd dl 1) 0), fnd dl 2, fnd dl 3, tOfL dl⟩ : ChangeD), Ar50, cr50, 0, rfl, H.mods, Hp.out H 50 rfl, ⟨hcc ▸ cOf_B hbf, .inl ⟨rfl, encCE0 hE, hX⟩⟩⟩
   refine wp_region_lit ?_
   refine la F rfl (x_load1 ty4 (F.t 8 rfl) (blk_cell (H.at 8 rfl) 0 rfl)) fun a F => la F rfl (x_move (F.t 57 rfl)) fun a F => ?_
   refine split_bool F 58 rfl (fun hb58 => ?_) (fun hb58 => ?_)
   ·have hc58 := hb58; try simp only [bL] at hc58
    refine lgs F hb58 rfl (x_move (F.t 12 rfl)) fun a F => lgs F hb58 rfl (x_leq (F.t 59 rfl) rfl) fun a F => la F rfl (x_pickT (F.t 58 rfl) hb58 (F.t 60 rfl)) fun a F => la F rfl (x_move (F.t 61 rfl)) fun a F => ?_
    refine split_bool F 62 rfl (fun hb62 => ?_) (fun hb62 => ?_)
    ·have hc62 := hb62; try simp only [bL] at hc62
     refine lgs F hb62 rfl (x_move (F.t 14 rfl)) fun a F => lgs F hb62 rfl (x_eql (F.t 63 rfl) rfl) fun a F => la F rfl (x_pickT (F.t 62 rfl) hb62 (F.t 64 rfl)) fun a F => ?_
     refine lp rfl ?_
     refine w_store 8 H ty4 rfl (F.t 8 rfl) (F.t 65 rfl) rfl (one1 rfl rfl) (by first | decide | exact Nat.le_of_ble_eq_true rfl) ?_
     clear H; intro w H
     refine wpList_nil ?_
     exact hJr14 _ _ _ (by have h_ := hb58; simp only [Bool.true_and] at h_; first | (simp [h_, hc62]; done) | (simp [h_, hc62, adE]; done)) ((((((((F.bare.add F 13 rfl).add F 12 rfl).add F 11 rfl).add F 10 rfl).add F 9 rfl).add F 8 rfl).add F 2 rfl).add F 0 rfl) (H.sub _ (sub_cons (sub_cons (sub_cons (sub_cons (sub_cons (sub_cons (sub_cons (sub_cons (sub_cons (sub_cons (sub_nil _) 50 rfl) 53 rfl) 11 rfl) 8 rfl) 25 rfl) 4 rfl) 17 rfl) 2 rfl) 990 rfl) 901 rfl))
    have hc62 := hb62; try simp only [bL] at hc62
    refine los F hb62 rfl fun a F => los F hb62 rfl fun a F => la F rfl (x_pickF (F.t 62 rfl) hb62 rfl) fun a F => ?_
    refine lp rfl ?_
    refine w_store 8 H ty4 rfl (F.t 8 rfl) (F.t 65 rfl) rfl (one1 rfl rfl) (by first | decide | exact Nat.le_of_ble_eq_true rfl) ?_
    clear H; intro w H
    refine wpList_nil ?_
    exact hJr14 _ _ _ (by have h_ := hb58; simp only [Bool.true_and] at h_; first | (simp [h_, hc62]; done) | (simp [h_, hc62, adE]; done)) ((((((((F.bare.add F 13 rfl).add F 12 rfl).add F 11 rfl).add F 10 rfl).add F 9 rfl).add F 8 rfl).add F 2 rfl).add F 0 rfl) (H.sub _ (sub_cons (sub_cons (sub_cons (sub_cons (sub_cons (sub_cons (sub_cons (sub_cons (sub_cons (sub_cons (sub_nil _) 50 rfl) 53 rfl) 11 rfl) 8 rfl) 25 rfl) 4 rfl) 17 rfl) 2 rfl) 990 rfl) 901 rfl))
   have hc58 := hb58; try simp only [bL] at hc58
   refine los F hb58 rfl fun a F => los F hb58 rfl fun a F => la F rfl (x_pickF (F.t 58 rfl) hb58 rfl) fun a F => la F rfl (x_move (F.t 61 rfl)) fun a F => lo F rfl fun a F => lo F rfl fun a F => la F rfl (x_pickF (F.t 62 rfl) rfl rfl) fun a F => ?_
   refine lp rfl ?_
   refine w_store 8 H ty4 rfl (F.t 8 rfl) (F.t 65 rfl) rfl (one1 rfl rfl) (by first | decide | exact Nat.le_of_ble_eq_true rfl) ?_
   clear H; intro w H
   refine wpList_nil ?_
   exact hJr14 _ _ _ (by have h_ := hb58; simp only [Bool.true_and] at h_; first | (simp [h_]; done) | (simp [h_, adE]; done)) ((((((((F.bare.add F 13 rfl).add F 12 rfl).add F 11 rfl).add F 10 rfl).add F 9 rfl).add F 8 rfl).add F 2 rfl).add F 0 rfl) (H.sub _ (sub_cons (sub_cons (sub_cons (sub_cons (sub_cons (sub_cons (sub_cons (sub_cons (sub_cons (sub_cons (sub_nil _) 50 rfl) 53 rfl) 11 rfl) 8 rfl) 25 rfl) 4 rfl) 17 rfl) 2 rfl) 990 rfl) 901 rfl))
  have hk47_8 := hc47; try simp only [bL] at hc47
  have hcc : cOf dl = (⟨(gi (fnd dl 1) 0), fnd dl 2, fnd dl 3, ⟨[], 0, 0, 0, []⟩⟩ : ChangeD) := by unfold cOf; rw [if_neg hc47]
  refine wp_skip (hK14 _ _ ?_)
  refine wp_seq_k fun _ hK26 => ?_
  refine sr fun _ hK27 => ?_
  have H : Hp (fun _ => False) w0 _ [(901, .rd_ (.int .u8) A bs c (fun k => k < w0.heap.size)), (990, .lib true), (2, .blk b2 (.cells #[.int .i64 0, .string (strOfNums []), .string (strOfNums []), .string (strOfNums []), .int .i64 0, .int .u64 0, .int .u64 0, .slice none 0 0] 66 (0, 0))), (17, .rd_ FE Ar17 dl cr17 (fun kb => okr17 kb ∨ (Value.slice Ar17 dl.length cr17).ownBlock = some kb)), (4, .blk b4 (.cells #[.slice Ar17 dl.length cr17] 60 (0, 0))), (25, .rd_ (.int .u8) Ar25 (fnd dl 1) cr25 (fun kb => (Value.slice Ar25 (fnd dl 1).length cr25).ownBlock = some kb)), (8, .blk b8 (.cells #[.bool true] 4 (0, 0))), (11, .blk b11 (.cells #[.int .i64 (gi (fnd dl 1) 0), .string (strOfNums (fnd dl 2)), .string (strOfNums (fnd dl 3)), .string (strOfNums []), .int .i64 0, .int .u64 0, .int .u64 0, .slice none 0 0] 66 (0, 0)))] := H.sub _ (sub_cons (sub_cons (sub_cons (sub_cons (sub_cons (sub_cons (sub_cons (sub_cons (sub_nil _) 11 rfl) 8 rfl) 25 rfl) 4 rfl) 17 rfl) 2 rfl) 990 rfl) 901 rfl)
  refine la F rfl (x_loadn ty66 (F.t 11 rfl) rfl (blk_whole (H.at 11 rfl))) fun a F => ?_
  refine lp rfl ?_
  refine w_call F (x_enter Tryz.func29 (by kernel_rfl) rfl (by simp only [bM, F.t 79 rfl] <;> rfl)) (encC_calls (c := (⟨(gi (fnd dl 1) 0), fnd dl 2, fnd dl 3, ⟨[], 0, 0, 0, []⟩⟩ : ChangeD)) _ (H.holds 990 _ rfl) (Rd.nil StE _ (fun _ => False)) (hcc ▸ cOf_B hbf)) rfl rfl ?_
  rintro _ w ⟨vr80, rfl, hm_, hr_⟩; refine ⟨_, rfl, ?_⟩; clear F; intro a F; have H := Hp.rowOut H 80 hm_ hr_; obtain ⟨Ar80, cr80, rfl⟩ := (H.row 80 rfl).form
  refine la F rfl (x_move (F.t 80 rfl)) fun a F => la F rfl (x_extract (F.t 78 rfl) rfl) fun a F => la F rfl (x_extract (F.t 78 rfl) rfl) fun a F => la F rfl (x_assign (F.t 81 rfl)) fun a F => la F rfl (x_assign (F.t 82 rfl)) fun a F => wn (hK27 _ _ (sr fun _ hK28 => la F rfl (x_load1 ty4 (F.t 8 rfl) (blk_cell (H.at 8 rfl) 0 rfl)) fun a F => ?_))
  refine la F rfl (x_not (F.t 83 rfl)) fun a F => la F rfl (x_move (F.t 84 rfl)) fun a F => lg F rfl (x_move (F.t 16 rfl)) fun a F => lg F rfl (x_neq (F.t 86 rfl) rfl) fun a F => la F rfl (x_pickF (F.t 85 rfl) rfl (F.t 87 rfl)) fun a F => la F rfl (x_move (F.t 88 rfl)) fun a F => ?_
  refine split_bool F 89 rfl (fun hb89 => ?_) (fun hb89 => ?_)
  ·have hc89 := hb89; try simp only [bL] at hc89
   refine los F hb89 rfl fun a F => los F hb89 rfl fun a F => los F hb89 rfl fun a F => los F hb89 rfl fun a F => la F rfl (x_pickT (F.t 89 rfl) hb89 rfl) fun a F => wn (hK28 _ _ ?_)
   refine wp_cond_true (F.t 94 rfl) ?_
   refine sr fun _ hK29 => la F rfl (x_buildS (cells := #[.int .i64 0, .string (strOfNums []), .string (strOfNums []), .string (strOfNums []), .int .i64 0, .int .u64 0, .int .u64 0, .slice none 0 0]) (places := #[(0, 1), (1, 1), (2, 1), (3, 5)]) Tryz.underlying66 ty66 (by kernel_rfl) Array.map_empty rfl) fun a F => ?_
   refine lp rfl ?_
   refine w_storeA 2 H ty66 rfl (F.t 2 rfl) (F.t 95 rfl) rfl (by simp [Value.cells, Value.oneCell']) rfl ?_
   clear H; intro w H
   refine la F rfl (x_assign rfl) fun a F => wn (hK29 _ _ ?_)
   refine wp_ret ?_
   try simp only [Exit.then, Exit.inBlock]
   have hz : NoC bs := noC_end hdl (fun hq => by
          obtain ⟨q1, q2, q3⟩ := hq
          rw [hcc] at q2 q3
          first | (simp [q2, q3, adE] at hc89; done))
   exact fin_ret F (resct F rfl rfl rfl (H.at 2 rfl) ty66 rfl) ⟨⟨0, [], [], ⟨[], 0, 0, 0, []⟩⟩, none, 0, 12, rfl, H.mods, RowOut.nil _ _ _ _, DecC.no hz⟩
  have hc89 := hb89; try simp only [bL] at hc89
  refine lgs F hb89 rfl (x_move (F.t 15 rfl)) fun a F => lgs F hb89 rfl (x_move (F.t 0 rfl)) fun a F => ?_
  refine lpo ((wo F rfl).trans (by rw [hb89]; rfl)) ?_
  refine w_call F (x_enter Tryz.func40 (by kernel_rfl) rfl (by simp only [bM, F.t 90 rfl, F.t 91 rfl] <;> rfl)) (bequal_calls _ (Row.rd (ok' := fun k_ => (fun _ => False) k_ ∨ (.slice Ar80 (encC (⟨(gi (fnd dl 1) 0), fnd dl 2, fnd dl 3, ⟨[], 0, 0, 0, []⟩⟩ : ChangeD)).length cr80 : Value).ownBlock = some k_) (H.row 80 rfl) (fun _ hk_ _ => .inl hk_) (fun _ hk_ => .inr hk_)) ((H.rd 901 rfl)) (encC_byte (hcc ▸ cOf_B hbf)) hby) rfl rfl ?_
  rintro _ w ⟨rfl, hm_⟩; refine ⟨_, rfl, ?_⟩; clear F; intro a F; have H := H.same hm_
  refine lgs F hb89 rfl (x_not (F.t 92 rfl)) fun a F => la F rfl (x_pickF (F.t 89 rfl) hb89 (F.t 93 rfl)) fun a F => wn (hK28 _ _ ?_)
  refine wp_cond_split (F.t 94 rfl) (fun hc94 => ?_) (fun hc94 => ?_)
  ·have hk94_9 := hc94; try simp only [bL] at hc94
   refine sr fun _ hK30 => la F rfl (x_buildS (cells := #[.int .i64 0, .string (strOfNums []), .string (strOfNums []), .string (strOfNums []), .int .i64 0, .int .u64 0, .int .u64 0, .slice none 0 0]) (places := #[(0, 1), (1, 1), (2, 1), (3, 5)]) Tryz.underlying66 ty66 (by kernel_rfl) Array.map_empty rfl) fun a F => ?_
   refine lp rfl ?_
   refine w_storeA 2 H ty66 rfl (F.t 2 rfl) (F.t 95 rfl) rfl (by simp [Value.cells, Value.oneCell']) rfl ?_
   clear H; intro w H
   refine la F rfl (x_assign rfl) fun a F => wn (hK30 _ _ ?_)
   refine wp_ret ?_
   try simp only [Exit.then, Exit.inBlock]
   have hz : NoC bs := noC_end hdl (fun hq => by
           obtain ⟨q1, q2, q3⟩ := hq
           rw [hcc] at q2 q3
           first | (simp [q2, q3, adE] at hc94; done) | (simp [q2, q3, adE] at hc89; done))
   exact fin_ret F (resct F rfl rfl rfl (H.at 2 rfl) ty66 rfl) ⟨⟨0, [], [], ⟨[], 0, 0, 0, []⟩⟩, none, 0, 12, rfl, H.mods, RowOut.nil _ _ _ _, DecC.no hz⟩
  have hk94_10 := hc94; try simp only [bL] at hc94
  refine wp_skip (hK26 _ _ (sr fun _ hK31 => la F rfl (x_loadn ty66 (F.t 11 rfl) rfl (blk_whole (H.at 11 rfl))) fun a F => ?_))
  refine lp rfl ?_
  refine w_storeA 2 H ty66 rfl (F.t 2 rfl) (F.t 96 rfl) rfl (by simp [Value.cells, Value.oneCell']) rfl ?_
  clear H; intro w H
  refine la F rfl (x_assign rfl) fun a F => wn (hK31 _ _ ?_)
  refine wp_ret ?_
  try simp only [Exit.then, Exit.inBlock]
  have hE : encCE (⟨(gi (fnd dl 1) 0), fnd dl 2, fnd dl 3, ⟨[], 0, 0, 0, []⟩⟩ : ChangeD) = 0 := by first | exact hc94 | exact hc89 | exact hc47 | exact hc32 | exact hc23
  have hX : encC (⟨(gi (fnd dl 1) 0), fnd dl 2, fnd dl 3, ⟨[], 0, 0, 0, []⟩⟩ : ChangeD) = bs := by first | exact hc94 | exact hc89 | exact hc47 | exact hc32 | exact hc23
  exact fin_ret F (resct F rfl rfl rfl (H.at 2 rfl) ty66 rfl) ⟨(⟨(gi (fnd dl 1) 0), fnd dl 2, fnd dl 3, ⟨[], 0, 0, 0, []⟩⟩ : ChangeD), none, 0, 0, rfl, H.mods, RowOut.nil _ _ _ _, ⟨hcc ▸ cOf_B hbf, .inl ⟨rfl, encCE0 hE, hX⟩⟩⟩
 refine r_start [(901, .rd_ (.int .u8) A bs c (fun k => k < w0.heap.size)), (17, .rd_ FE Ar17 dl cr17 (fun kb => okr17 kb ∨ (Value.slice Ar17 dl.length cr17).ownBlock = some kb)), (25, .rd_ (.int .u8) Ar25 (fnd dl 1) cr25 (fun kb => (Value.slice Ar25 (fnd dl 1).length cr25).ownBlock = some kb)), (2, .blk b2 (.cells #[.int .i64 0, .string (strOfNums []), .string (strOfNums []), .string (strOfNums []), .int .i64 0, .int .u64 0, .int .u64 0, .slice none 0 0] 66 (0, 0))), (4, .blk b4 (.cells #[.slice Ar17 dl.length cr17] 60 (0, 0))), (8, .blk b8 (.cells #[.bool true] 4 (0, 0)))] (by kernel_rfl) H fun H => ?_
 have hS : SL [(901, .rd_ (.int .u8) A bs c (fun k => k < w0.heap.size)), (17, .rd_ FE Ar17 dl cr17 (fun kb => okr17 kb ∨ (Value.slice Ar17 dl.length cr17).ownBlock = some kb)), (25, .rd_ (.int .u8) Ar25 (fnd dl 1) cr25 (fun kb => (Value.slice Ar25 (fnd dl 1).length cr25).ownBlock = some kb)), (2, .blk b2 (.cells #[.int .i64 0, .string (strOfNums []), .string (strOfNums []), .string (strOfNums []), .int .i64 0, .int .u64 0, .int .u64 0, .slice none 0 0] 66 (0, 0))), (4, .blk b4 (.cells #[.slice Ar17 dl.length cr17] 60 (0, 0))), (8, .blk b8 (.cells #[.bool true] 4 (0, 0)))] _ := SL.of H (sub_cons (sub_cons (sub_cons (sub_cons (sub_cons (sub_cons (sub_nil _) 8 rfl) 4 rfl) 2 rfl) 25 rfl) 17 rfl) 901 rfl)
 refine rT 0 F rfl (by kernel_rfl) pq rfl hS (fun w hS => x_move (F.t 6 rfl)) rfl fun a F => ?_
 refine rT 1 F rfl (by kernel_rfl) pq rfl hS (fun w hS => x_iaddr_A Tryz.underlying27 ty5 ((H.rd 25 rfl)) (F.t 36 rfl) rfl (by omega) (by omega) _) rfl fun a F => ?_
 refine rT 2 F rfl (by kernel_rfl) pq rfl hS (fun w hS => x_load1 ty5 (F.t 37 rfl) (((SL.rd hS 25 rfl)).cellA (gi_some (i := 0) (by omega) (by omega)))) rfl fun a F => ?_
 refine rT 3 F rfl (by kernel_rfl) pq rfl hS (fun w hS => x_conv Tryz.underlying61 ⟨_, Tryz.underlying5⟩ (F.t 38 rfl) (w64 (by have := ((fnd_byte hbf 1 : Byte _).gi 0); omega) (by have := ((fnd_byte hbf 1 : Byte _).gi 0); omega))) rfl fun a F => ?_
 refine rT 4 F rfl (by kernel_rfl) pq rfl hS (fun w hS => x_move (F.t 9 rfl)) rfl fun a F => ?_
 refine rT 6 F rfl (by kernel_rfl) pq rfl hS (fun w hS => x_move (F.t 9 rfl)) rfl fun a F => ?_
 refine r_do2 5 9 rfl rfl (by kernel_rfl) rfl rfl rfl rfl ?_ ?_
 ·
  refine w_call F (x_enterC (vs := #[.int .i64 2]) (caps := #[.pointer (some ⟨b4, 0, none⟩)]) (args := #[.int .i64 2, .pointer (some ⟨b4, 0, none⟩)]) Tryz.func74 (by kernel_rfl) rfl (F.t 40 rfl) (by simp only [bM] <;> rfl) rfl) (dtext_calls (bl := b4) _ (H.rd 17 rfl) (H.at 4 rfl) hsh 2) rfl rfl ?_
  rintro _ w ⟨rfl, hm_⟩; refine ⟨_, rfl, ?_⟩; clear F; intro a F; have H := H.same hm_
  refine aN (SL.of H (sub_cons (sub_cons (sub_cons (sub_cons (sub_cons (sub_cons (sub_nil _) 8 rfl) 4 rfl) 2 rfl) 25 rfl) 17 rfl) 901 rfl)) fun hS => ?_
  refine r_do2 7 9 rfl rfl (by kernel_rfl) rfl rfl rfl rfl ?_ ?_
  ·
   refine w_call F (x_enterC (vs := #[.int .i64 3]) (caps := #[.pointer (some ⟨b4, 0, none⟩)]) (args := #[.int .i64 3, .pointer (some ⟨b4, 0, none⟩)]) Tryz.func74 (by kernel_rfl) rfl (F.t 42 rfl) (by simp only [bM] <;> rfl) rfl) (dtext_calls (bl := b4) _ (H.rd 17 rfl) (H.at 4 rfl) hsh 3) rfl rfl ?_
   rintro _ w ⟨rfl, hm_⟩; refine ⟨_, rfl, ?_⟩; clear F; intro a F; have H := H.same hm_
   refine aN (SL.of H (sub_cons (sub_cons (sub_cons (sub_cons (sub_cons (sub_cons (sub_nil _) 8 rfl) 4 rfl) 2 rfl) 25 rfl) 17 rfl) 901 rfl)) fun hS => ?_
   refine rT 8 F rfl (by kernel_rfl) pq rfl hS (fun w hS => x_buildS (cells := #[.int .i64 (gi (fnd dl 1) 0), .string (strOfNums (fnd dl 2)), .string (strOfNums (fnd dl 3)), .string (strOfNums []), .int .i64 0, .int .u64 0, .int .u64 0, .slice none 0 0]) (places := #[(0, 1), (1, 1), (2, 1), (3, 5)]) Tryz.underlying66 ty66 (by kernel_rfl) (by simp only [bM, F.t 39 rfl, F.t 41 rfl, F.t 43 rfl] <;> rfl) rfl) rfl fun a F => ?_
   refine r_do 9 rfl (by kernel_rfl) rfl rfl ?_
   refine w_alloc 11 F H rfl ty66 ?_
   clear F H; intro a w b11 F H
   refine aN (SL.of H (sub_cons (sub_cons (sub_cons (sub_cons (sub_cons (sub_cons (sub_nil _) 8 rfl) 4 rfl) 2 rfl) 25 rfl) 17 rfl) 901 rfl)) fun hS => ?_
   refine r_do 10 rfl (by kernel_rfl) rfl rfl ?_
   refine w_storeA 11 H ty66 rfl (F.t 11 rfl) (F.t 44 rfl) rfl (by simp [Value.cells, Value.oneCell']) rfl ?_
   clear H; intro w H
   refine aN (SL.of H (sub_cons (sub_cons (sub_cons (sub_cons (sub_cons (sub_cons (sub_nil _) 8 rfl) 4 rfl) 2 rfl) 25 rfl) 17 rfl) 901 rfl)) fun hS => ?_
   refine r_end (by kernel_rfl) ?_; clear hS
   exact hJr10 _ _ _ ((((((F.bare.add F 11 rfl).add F 10 rfl).add F 9 rfl).add F 8 rfl).add F 2 rfl).add F 0 rfl) (H.sub _ (sub_cons (sub_cons (sub_cons (sub_cons (sub_cons (sub_cons (sub_cons (sub_cons (sub_nil _) 11 rfl) 8 rfl) 25 rfl) 4 rfl) 17 rfl) 2 rfl) 990 rfl) 901 rfl))
  ·
   refine w_alloc 11 F H rfl ty66 ?_
   clear F H; intro a w b11 F H
   refine aN (SL.of H (sub_cons (sub_cons (sub_cons (sub_cons (sub_cons (sub_cons (sub_nil _) 8 rfl) 4 rfl) 2 rfl) 25 rfl) 17 rfl) 901 rfl)) fun hS => ?_
   refine r_do 7 rfl (by kernel_rfl) rfl rfl ?_
   refine w_call F (x_enterC (vs := #[.int .i64 3]) (caps := #[.pointer (some ⟨b4, 0, none⟩)]) (args := #[.int .i64 3, .pointer (some ⟨b4, 0, none⟩)]) Tryz.func74 (by kernel_rfl) rfl (F.t 42 rfl) (by simp only [bM] <;> rfl) rfl) (dtext_calls (bl := b4) _ (H.rd 17 rfl) (H.at 4 rfl) hsh 3) rfl rfl ?_
   rintro _ w ⟨rfl, hm_⟩; refine ⟨_, rfl, ?_⟩; clear F; intro a F; have H := H.same hm_
   refine aN (SL.of H (sub_cons (sub_cons (sub_cons (sub_cons (sub_cons (sub_cons (sub_nil _) 8 rfl) 4 rfl) 2 rfl) 25 rfl) 17 rfl) 901 rfl)) fun hS => ?_
   refine rT 8 F rfl (by kernel_rfl) pq rfl hS (fun w hS => x_buildS (cells := #[.int .i64 (gi (fnd dl 1) 0), .string (strOfNums (fnd dl 2)), .string (strOfNums (fnd dl 3)), .string (strOfNums []), .int .i64 0, .int .u64 0, .int .u64 0, .slice none 0 0]) (places := #[(0, 1), (1, 1), (2, 1), (3, 5)]) Tryz.underlying66 ty66 (by kernel_rfl) (by simp only [bM, F.t 39 rfl, F.t 41 rfl, F.t 43 rfl] <;> rfl) rfl) rfl fun a F => ?_
   refine r_do 10 rfl (by kernel_rfl) rfl rfl ?_
   refine w_storeA 11 H ty66 rfl (F.t 11 rfl) (F.t 44 rfl) rfl (by simp [Value.cells, Value.oneCell']) rfl ?_
   clear H; intro w H
   refine aN (SL.of H (sub_cons (sub_cons (sub_cons (sub_cons (sub_cons (sub_cons (sub_nil _) 8 rfl) 4 rfl) 2 rfl) 25 rfl) 17 rfl) 901 rfl)) fun hS => ?_
   refine r_end (by kernel_rfl) ?_; clear hS
   exact hJr10 _ _ _ ((((((F.bare.add F 11 rfl).add F 10 rfl).add F 9 rfl).add F 8 rfl).add F 2 rfl).add F 0 rfl) (H.sub _ (sub_cons (sub_cons (sub_cons (sub_cons (sub_cons (sub_cons (sub_cons (sub_cons (sub_nil _) 11 rfl) 8 rfl) 25 rfl) 4 rfl) 17 rfl) 2 rfl) 990 rfl) 901 rfl))
 ·
  refine w_alloc 11 F H rfl ty66 ?_
  clear F H; intro a w b11 F H
  refine aN (SL.of H (sub_cons (sub_cons (sub_cons (sub_cons (sub_cons (sub_cons (sub_nil _) 8 rfl) 4 rfl) 2 rfl) 25 rfl) 17 rfl) 901 rfl)) fun hS => ?_
  refine r_do 5 rfl (by kernel_rfl) rfl rfl ?_
  refine w_call F (x_enterC (vs := #[.int .i64 2]) (caps := #[.pointer (some ⟨b4, 0, none⟩)]) (args := #[.int .i64 2, .pointer (some ⟨b4, 0, none⟩)]) Tryz.func74 (by kernel_rfl) rfl (F.t 40 rfl) (by simp only [bM] <;> rfl) rfl) (dtext_calls (bl := b4) _ (H.rd 17 rfl) (H.at 4 rfl) hsh 2) rfl rfl ?_
  rintro _ w ⟨rfl, hm_⟩; refine ⟨_, rfl, ?_⟩; clear F; intro a F; have H := H.same hm_
  refine aN (SL.of H (sub_cons (sub_cons (sub_cons (sub_cons (sub_cons (sub_cons (sub_nil _) 8 rfl) 4 rfl) 2 rfl) 25 rfl) 17 rfl) 901 rfl)) fun hS => ?_
  refine r_do 7 rfl (by kernel_rfl) rfl rfl ?_
  refine w_call F (x_enterC (vs := #[.int .i64 3]) (caps := #[.pointer (some ⟨b4, 0, none⟩)]) (args := #[.int .i64 3, .pointer (some ⟨b4, 0, none⟩)]) Tryz.func74 (by kernel_rfl) rfl (F.t 42 rfl) (by simp only [bM] <;> rfl) rfl) (dtext_calls (bl := b4) _ (H.rd 17 rfl) (H.at 4 rfl) hsh 3) rfl rfl ?_
  rintro _ w ⟨rfl, hm_⟩; refine ⟨_, rfl, ?_⟩; clear F; intro a F; have H := H.same hm_
  refine aN (SL.of H (sub_cons (sub_cons (sub_cons (sub_cons (sub_cons (sub_cons (sub_nil _) 8 rfl) 4 rfl) 2 rfl) 25 rfl) 17 rfl) 901 rfl)) fun hS => ?_
  refine rT 8 F rfl (by kernel_rfl) pq rfl hS (fun w hS => x_buildS (cells := #[.int .i64 (gi (fnd dl 1) 0), .string (strOfNums (fnd dl 2)), .string (strOfNums (fnd dl 3)), .string (strOfNums []), .int .i64 0, .int .u64 0, .int .u64 0, .slice none 0 0]) (places := #[(0, 1), (1, 1), (2, 1), (3, 5)]) Tryz.underlying66 ty66 (by kernel_rfl) (by simp only [bM, F.t 39 rfl, F.t 41 rfl, F.t 43 rfl] <;> rfl) rfl) rfl fun a F => ?_
  refine r_do 10 rfl (by kernel_rfl) rfl rfl ?_
  refine w_storeA 11 H ty66 rfl (F.t 11 rfl) (F.t 44 rfl) rfl (by simp [Value.cells, Value.oneCell']) rfl ?_
  clear H; intro w H
  refine aN (SL.of H (sub_cons (sub_cons (sub_cons (sub_cons (sub_cons (sub_cons (sub_nil _) 8 rfl) 4 rfl) 2 rfl) 25 rfl) 17 rfl) 901 rfl)) fun hS => ?_
  refine r_end (by kernel_rfl) ?_; clear hS
  exact hJr10 _ _ _ ((((((F.bare.add F 11 rfl).add F 10 rfl).add F 9 rfl).add F 8 rfl).add F 2 rfl).add F 0 rfl) (H.sub _ (sub_cons (sub_cons (sub_cons (sub_cons (sub_cons (sub_cons (sub_cons (sub_cons (sub_nil _) 11 rfl) 8 rfl) 25 rfl) 4 rfl) 17 rfl) 2 rfl) 990 rfl) 901 rfl))
end Go.Proofs.YtiiklnghnifmjaaGreatDoor.Act
