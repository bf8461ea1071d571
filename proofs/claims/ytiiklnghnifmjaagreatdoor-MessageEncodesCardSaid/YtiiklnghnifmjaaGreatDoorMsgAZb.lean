/- The walks of messages. -/
import Derived.Test.YtiiklnghnifmjaaGreatDoorChgAZb
import Derived.Test.YtiiklnghnifmjaaGreatDoorCrcXZb
set_option linter.unusedVariables false
set_option maxRecDepth 100000
set_option maxHeartbeats 1000000
set_option linter.unusedSimpArgs false
namespace Go.Proofs.YtiiklnghnifmjaaGreatDoor.Act
open Go.RowKit Go.Proofs.YtiiklnghnifmjaaGreatDoor.Sx Go.Proofs.YtiiklnghnifmjaaGreatDoor.Cod Go.Proofs.YtiiklnghnifmjaaGreatDoor.Num
theorem ty22 : TyI Tryz.prog 22 (.int .i64 0) 1 8 false := ⟨by kernel_rfl, _, Tryz.underlying22, rfl⟩
theorem ty23 : TyI Tryz.prog 23 (.slice none 0 0) 1 24 false := ⟨by kernel_rfl, _, Tryz.underlying23, rfl⟩
theorem ty24 : TyI Tryz.prog 24 (.slice none 0 0) 1 24 false := ⟨by kernel_rfl, _, Tryz.underlying24, rfl⟩
theorem ty26 : TyI Tryz.prog 26 (.agg #[.int .i64 0, .int .i64 0, .int .i64 0, .int .i64 0, .slice none 0 0, .slice none 0 0]) 6 80 true := ⟨by kernel_rfl, _, Tryz.underlying26, rfl⟩
theorem node_calls (w0 : World) (n : Int) : Calls Tryz.prog 45 #[.int .i64 n] w0 fun e w' => e = .returned (.bool (nodeI n)) ∧ Mods (fun _ => False) w0 w' := by
 refine cow Tryz.func45 rfl Tryz.ntmps45 (Nat.le_of_ble_eq_true rfl) fun a F => ?_
 have H := Hp.nil (fun _ => False) w0
 refine sr fun _ hK1 => ?_
 refine la F rfl (x_assign rfl) fun a F => ?_
 refine wn (hK1 _ _ ?_)
 refine sr fun _ hK2 => ?_
 refine la F rfl (x_move (F.t 0 rfl)) fun a F => ?_
 refine la F rfl (x_geq (F.t 3 rfl) rfl) fun a F => ?_
 refine la F rfl (x_move (F.t 4 rfl)) fun a F => ?_
 refine split_bool F 5 rfl (fun hb5 => ?_) (fun hb5 => ?_)
 ·have hc5 := hb5; try simp only [bL] at hc5
  refine lgs F hb5 rfl (x_move (F.t 0 rfl)) fun a F => ?_
  refine lgs F hb5 rfl (x_lss (F.t 6 rfl) rfl) fun a F => ?_
  refine la F rfl (x_pickT (F.t 5 rfl) hb5 (F.t 7 rfl)) fun a F => ?_
  refine la F rfl (x_assign (F.t 8 rfl)) fun a F => ?_
  refine wn (hK2 _ _ ?_)
  refine wp_ret ?_
  try simp only [Exit.then, Exit.inBlock]
  refine fin_ret F (res1 (v := .bool (decide (n < 8))) F rfl rfl) ⟨?_, H.mods⟩
  congr 2; unfold nodeI; first | (simp [hc5]; done) | (simp [hc5]; omega) | (simp [hc5]; intros; omega) | (rw [Bool.eq_iff_iff]; simp [hc5]; first | omega | (intros; omega))
 have hc5 := hb5; try simp only [bL] at hc5
 refine los F hb5 rfl fun a F => ?_
 refine los F hb5 rfl fun a F => ?_
 refine la F rfl (x_pickF (F.t 5 rfl) hb5 rfl) fun a F => ?_
 refine la F rfl (x_assign (F.t 8 rfl)) fun a F => ?_
 refine wn (hK2 _ _ ?_)
 refine wp_ret ?_
 try simp only [Exit.then, Exit.inBlock]
 refine fin_ret F (res1 (v := .bool false) F rfl rfl) ⟨?_, H.mods⟩
 congr 2; unfold nodeI; first | (simp [hc5]; done) | (simp [hc5]; omega) | (simp [hc5]; intros; omega) | (rw [Bool.eq_iff_iff]; simp [hc5]; first | omega | (intros; omega))
theorem nodes1_calls (w0 : World) {bl : Nat} {last : Int} (hbl : w0.heap[bl]? = some (.cells #[.int .i64 last] 3 (0, 0))) (n : Int) : Calls Tryz.prog 81 #[.int .i64 n, .pointer (some ⟨bl, 0, none⟩)] w0 fun e w' => e = .returned (.bool (!(decide (last < n) && nodeI n))) ∧ Mods (fun k => k = bl) w0 w' ∧ w'.heap[bl]? = some (.cells #[.int .i64 n] 3 (0, 0)) := by
 refine cow Tryz.func81 rfl Tryz.ntmps81 (Nat.le_of_ble_eq_true rfl) fun a F => ?_
 have H := Hp.ownblk 1 hbl
 refine sr fun _ hK1 => ?_
 refine la F rfl (x_assign rfl) fun a F => ?_
 refine wn (hK1 _ _ ?_)
 refine sr fun _ hK2 => ?_
 refine la F rfl (x_move (F.t 0 rfl)) fun a F => ?_
 refine la F rfl (x_load1 ty3 (F.t 1 rfl) (blk_cell (H.at 1 rfl) 0 rfl)) fun a F => ?_
 refine la F rfl (x_leq (F.t 5 rfl) (F.t 6 rfl)) fun a F => ?_
 refine la F rfl (x_move (F.t 7 rfl)) fun a F => ?_
 refine split_bool F 8 rfl (fun hb8 => ?_) (fun hb8 => ?_)
 ·have hc8 := hb8; try simp only [bL] at hc8
  refine los F hb8 rfl fun a F => ?_
  refine los F hb8 rfl fun a F => ?_
  refine los F hb8 rfl fun a F => ?_
  refine la F rfl (x_pickT (F.t 8 rfl) hb8 rfl) fun a F => ?_
  refine la F rfl (x_assign (F.t 12 rfl)) fun a F => ?_
  refine wn (hK2 _ _ ?_)
  refine sr fun _ hK3 => ?_
  refine la F rfl (x_move (F.t 0 rfl)) fun a F => ?_
  refine lp rfl ?_
  refine w_store 1 H ty3 rfl (F.t 1 rfl) (F.t 13 rfl) rfl (one1 rfl rfl) (by first | decide | exact Nat.le_of_ble_eq_true rfl) ?_
  clear H; intro w H
  refine wn (hK3 _ _ ?_)
  refine sr fun _ hK4 => ?_
  refine la F rfl (x_move (F.t 4 rfl)) fun a F => ?_
  refine la F rfl (x_assign (F.t 14 rfl)) fun a F => ?_
  refine wn (hK4 _ _ ?_)
  refine wp_ret ?_
  try simp only [Exit.then, Exit.inBlock]
  have hv : true = !(decide (last < n) && nodeI n) := by rw [Bool.eq_iff_iff]; simp [hc8]; try omega
  exact fin_ret F (res1 (v := .bool true) F rfl rfl) ⟨by rw [hv], H.mods, H.at 1 rfl⟩
 have hc8 := hb8; try simp only [bL] at hc8
 refine lgs F hb8 rfl (x_move (F.t 0 rfl)) fun a F => ?_
 refine lpo ((wo F rfl).trans (by rw [hb8]; rfl)) ?_
 refine w_call F (x_enter Tryz.func45 (by kernel_rfl) rfl (by simp only [bM, F.t 9 rfl] <;> rfl)) (node_calls _ n) rfl rfl ?_
 rintro _ w ⟨rfl, hm_⟩; refine ⟨_, rfl, ?_⟩; clear F; intro a F; have H := H.same hm_
 refine lgs F hb8 rfl (x_not (F.t 10 rfl)) fun a F => ?_
 refine la F rfl (x_pickF (F.t 8 rfl) hb8 (F.t 11 rfl)) fun a F => ?_
 refine la F rfl (x_assign (F.t 12 rfl)) fun a F => ?_
 refine wn (hK2 _ _ ?_)
 refine sr fun _ hK5 => ?_
 refine la F rfl (x_move (F.t 0 rfl)) fun a F => ?_
 refine lp rfl ?_
 refine w_store 1 H ty3 rfl (F.t 1 rfl) (F.t 13 rfl) rfl (one1 rfl rfl) (by first | decide | exact Nat.le_of_ble_eq_true rfl) ?_
 clear H; intro w H
 refine wn (hK5 _ _ ?_)
 refine sr fun _ hK6 => ?_
 refine la F rfl (x_move (F.t 4 rfl)) fun a F => ?_
 refine la F rfl (x_assign (F.t 14 rfl)) fun a F => ?_
 refine wn (hK6 _ _ ?_)
 refine wp_ret ?_
 try simp only [Exit.then, Exit.inBlock]
 have hv : (!(nodeI n)) = !(decide (last < n) && nodeI n) := by rw [Bool.eq_iff_iff]; simp [hc8]; try omega
 exact fin_ret F (res1 (v := .bool (!(nodeI n))) F rfl rfl) ⟨by rw [hv], H.mods, H.at 1 rfl⟩
theorem index_calls (w0 : World) {ok : Nat → Prop} {A : Option Addr} {xs : List Int} {c : Nat} (hr : Rd (.int .i64) w0 ok A xs c) (v : Int) : Calls Tryz.prog 105 #[.slice A xs.length c, .int .i64 v] w0 fun e w' => ∃ i, e = .returned (.int .i64 i) ∧ decide ((0 : Int) ≤ i) = decide (v ∈ xs) ∧ Mods (fun _ => False) w0 w' := by
 refine cow Tryz.func105 rfl Tryz.ntmps105 (Nat.le_of_ble_eq_true rfl) fun a F => ?_
 have H := Hp.nil (fun _ => False) w0
 have H := H.arg 901 hr.all (fun _ h => ⟨h, fun h => h⟩)
 have hle901 := hr.le; unfold maxLen at hle901
 refine sr fun _ hK1 => ?_
 refine la F rfl (x_assign rfl) fun a F => ?_
 refine wn (hK1 _ _ ?_)
 refine wp_seq_k fun _ hK2 => ?_
 refine sr fun _ hK3 => ?_
 refine la F rfl (x_move (F.t 0 rfl)) fun a F => ?_
 refine la F rfl (x_len_slice Tryz.underlying23 (F.t 6 rfl)) fun a F => ?_
 refine la F rfl (x_move rfl) fun a F => ?_
 refine wn (hK3 _ _ ?_)
 refine wp_block ?_
 refine wp_loop_ghost (fun n_ a w => ∃ k : Nat, n_ = xs.length - k ∧ (k ≤ xs.length) ∧ (∀ j, j < k → ¬ v = gi xs (j : Int)) ∧ Fr 19 a [(0, .slice A xs.length c), (1, .int .i64 v), (7, .int .i64 (xs.length : Int)), (8, .int .i64 (k : Int))] ∧ Hp (fun _ => False) w0 w [(901, .rd_ (.int .i64) A xs c (fun k => k < w0.heap.size))]) (xs.length) ?_ ?_
 ·exact ⟨0, rfl, by omega, fun j hj => by omega, ((((F.bare.add F 8 rfl).add F 7 rfl).add F 1 rfl).add F 0 rfl), H.sub _ (sub_cons (sub_nil _) 901 rfl)⟩
 rintro _ a w ⟨k, rfl, hq0_0, hq0_1, F, H⟩
 refine sr fun _ hK4 => ?_
 refine la F rfl (x_lss (F.t 8 rfl) (F.t 7 rfl)) fun a F => ?_
 refine wn (hK4 _ _ ?_)
 refine wp_seq_k fun _ hK5 => ?_
 refine wp_cond_split (F.t 9 rfl) (fun hc9 => ?_) (fun hc9 => ?_)
 ·have hk9_1 := hc9; try simp only [bL] at hc9
  refine wp_skip ?_
  refine hK5 _ _ ?_
  refine wp_seq_k fun _ hK6 => ?_
  refine wp_block ?_
  refine sr fun _ hK7 => ?_
  refine la F rfl (x_move (F.t 8 rfl)) fun a F => ?_
  refine la F rfl (x_assign (F.t 10 rfl)) fun a F => ?_
  refine wn (hK7 _ _ ?_)
  refine sr fun _ hK8 => ?_
  refine la F rfl (x_move (F.t 1 rfl)) fun a F => ?_
  refine la F rfl (x_move (F.t 0 rfl)) fun a F => ?_
  refine la F rfl (x_move (F.t 5 rfl)) fun a F => ?_
  refine la F rfl (x_iaddr_A Tryz.underlying23 ty3 ((H.rd 901 rfl)) (F.t 12 rfl) (F.t 13 rfl) (by omega) (by omega) _) fun a F => ?_
  refine la F rfl (x_load1 ty3 (F.t 14 rfl) (((H.rd 901 rfl)).cellA (gi_some (i := (k : Int)) (by omega) (by omega)))) fun a F => ?_
  refine la F rfl (x_eql (F.t 11 rfl) (F.t 15 rfl)) fun a F => ?_
  refine wn (hK8 _ _ ?_)
  refine wp_cond_split (F.t 16 rfl) (fun hc16 => ?_) (fun hc16 => ?_)
  ·have hk16_2 := hc16; try simp only [bL] at hc16
   have hz := idx_yes hc9 hc16
   refine sr fun _ hK9 => ?_
   refine la F rfl (x_move (F.t 5 rfl)) fun a F => ?_
   refine la F rfl (x_assign (F.t 17 rfl)) fun a F => ?_
   refine wn (hK9 _ _ ?_)
   refine wp_ret ?_
   try simp only [Exit.then, Exit.inBlock]
   exact fin_ret F (res1 F rfl rfl) ⟨_, rfl, hz, H.mods⟩
  have hk16_3 := hc16; try simp only [bL] at hc16
  refine wp_skip ?_
  refine hK6 _ _ ?_
  refine wp_region_lit ?_
  refine la F rfl (x_add (F.t 8 rfl) rfl (w64 (by omega) (by omega))) fun a F => ?_
  refine la F rfl (x_move (F.t 18 rfl)) fun a F => ?_
  refine wpList_nil ?_
  exact ⟨_, by omega, ⟨k + 1, rfl, by omega, idx_step hq0_1 hc16, ((((F.bare.add F 8 rfl).add F 7 rfl).add F 1 rfl).add F 0 rfl), H.sub _ (sub_cons (sub_nil _) 901 rfl)⟩⟩
 have hk9_4 := hc9; try simp only [bL] at hc9
 obtain rfl : k = xs.length := by omega
 have hz := idx_no hq0_1
 refine wp_exit ?_
 refine hK2 _ _ ?_
 refine sr fun _ hK10 => ?_
 refine la F rfl (x_assign rfl) fun a F => ?_
 refine wn (hK10 _ _ ?_)
 refine wp_ret ?_
 try simp only [Exit.then, Exit.inBlock]
 exact fin_ret F (res1 F rfl rfl) ⟨_, rfl, hz, H.mods⟩
theorem contains_calls (w0 : World) {ok : Nat → Prop} {A : Option Addr} {xs : List Int} {c : Nat} (hr : Rd (.int .i64) w0 ok A xs c) (v : Int) : Calls Tryz.prog 79 #[.slice A xs.length c, .int .i64 v] w0 fun e w' => e = .returned (.bool (decide (v ∈ xs))) ∧ Mods (fun _ => False) w0 w' := by
 refine cow Tryz.func79 rfl Tryz.ntmps79 (Nat.le_of_ble_eq_true rfl) fun a F => ?_
 have H := Hp.nil (fun _ => False) w0
 have H := H.arg 901 hr.all (fun _ h => ⟨h, fun h => h⟩)
 have hle901 := hr.le; unfold maxLen at hle901
 refine sr fun _ hK1 => ?_
 refine la F rfl (x_assign rfl) fun a F => ?_
 refine wn (hK1 _ _ ?_)
 refine sr fun _ hK2 => ?_
 refine la F rfl (x_move (F.t 0 rfl)) fun a F => ?_
 refine la F rfl (x_move (F.t 1 rfl)) fun a F => ?_
 refine lp rfl ?_
 refine w_call F (x_enter Tryz.func105 (by kernel_rfl) rfl (by simp only [bM, F.t 5 rfl, F.t 6 rfl] <;> rfl)) (index_calls _ ((H.rd 901 rfl)) v) rfl rfl ?_
 rintro _ w ⟨i_, rfl, hi_, hm_⟩; refine ⟨_, rfl, ?_⟩; clear F; intro a F; have H := H.same hm_
 refine la F rfl (x_geq (F.t 7 rfl) rfl) fun a F => ?_
 refine la F rfl (x_assign (F.t 8 rfl)) fun a F => ?_
 refine wn (hK2 _ _ ?_)
 refine wp_ret ?_
 try simp only [Exit.then, Exit.inBlock]
 exact fin_ret F (res1 F rfl rfl) ⟨by rw [← hi_] <;> rfl, H.mods⟩
theorem indexN_calls (w0 : World) {bl : Nat} {last : Int} (hbl : w0.heap[bl]? = some (.cells #[.int .i64 last] 3 (0, 0))) {ok : Nat → Prop} {A : Option Addr} {xs : List Int} {c : Nat} (hr : Rd (.int .i64) w0 ok A xs c) (hok : ∀ k, ok k → k < w0.heap.size) (hne : ∀ k, ok k → ¬ k = bl) : Calls Tryz.prog 106 #[.slice A xs.length c, .func (.func 81) #[] #[.pointer (some ⟨bl, 0, none⟩)]] w0 fun e w' => ∃ i, e = .returned (.int .i64 i) ∧ decide ((0 : Int) ≤ i) = !nodesFrom last xs ∧ Mods (fun k => k = bl) w0 w' ∧ ∃ l', w'.heap[bl]? = some (.cells #[.int .i64 l'] 3 (0, 0)) := by
 refine cow Tryz.func106 rfl Tryz.ntmps106 (Nat.le_of_ble_eq_true rfl) fun a F => ?_
 have H := Hp.ownblk 1 hbl
 have H := H.readable 901 hr hok (fun i X hX k hk hk2 => by rcases get_one hX with ⟨_, rfl⟩ | ⟨_, h⟩; exact hne k hk2 hk; simp [Sx.get] at h)
 have hle901 := hr.le; unfold maxLen at hle901
 refine sr fun _ hK1 => ?_
 refine la F rfl (x_assign rfl) fun a F => ?_
 refine wn (hK1 _ _ ?_)
 refine wp_seq_k fun _ hK2 => ?_
 refine sr fun _ hK3 => ?_
 refine la F rfl (x_move (F.t 0 rfl)) fun a F => ?_
 refine la F rfl (x_len_slice Tryz.underlying23 (F.t 6 rfl)) fun a F => ?_
 refine la F rfl (x_move rfl) fun a F => ?_
 refine wn (hK3 _ _ ?_)
 refine wp_block ?_
 refine wp_loop_ghost (fun n_ a w => ∃ k : Nat, ∃ l : Int, n_ = xs.length - k ∧ (k ≤ xs.length) ∧ (nodesFrom last xs = nodesFrom l (xs.drop k)) ∧ Fr 19 a [(0, .slice A xs.length c), (1, .func (.func 81) #[] #[.pointer (some ⟨bl, 0, none⟩)]), (7, .int .i64 (xs.length : Int)), (8, .int .i64 (k : Int))] ∧ Hp (fun k => k = bl) w0 w [(1, .blk bl (.cells #[.int .i64 l] 3 (0, 0))), (901, .rd_ (.int .i64) A xs c ok)]) (xs.length) ?_ ?_
 ·exact ⟨0, last, rfl, by omega, by rw [List.drop_zero], ((((F.bare.add F 8 rfl).add F 7 rfl).add F 1 rfl).add F 0 rfl), H.sub _ (sub_cons (sub_cons (sub_nil _) 901 rfl) 1 rfl)⟩
 rintro _ a w ⟨k, l, rfl, hq0_0, hq0_1, F, H⟩
 refine sr fun _ hK4 => ?_
 refine la F rfl (x_lss (F.t 8 rfl) (F.t 7 rfl)) fun a F => ?_
 refine wn (hK4 _ _ ?_)
 refine wp_seq_k fun _ hK5 => ?_
 refine wp_cond_split (F.t 9 rfl) (fun hc9 => ?_) (fun hc9 => ?_)
 ·have hk9_1 := hc9; try simp only [bL] at hc9
  refine wp_skip ?_
  refine hK5 _ _ ?_
  refine wp_seq_k fun _ hK6 => ?_
  refine wp_block ?_
  refine sr fun _ hK7 => ?_
  refine la F rfl (x_move (F.t 8 rfl)) fun a F => ?_
  refine la F rfl (x_assign (F.t 10 rfl)) fun a F => ?_
  refine wn (hK7 _ _ ?_)
  refine sr fun _ hK8 => ?_
  refine la F rfl (x_move (F.t 1 rfl)) fun a F => ?_
  refine la F rfl (x_move (F.t 0 rfl)) fun a F => ?_
  refine la F rfl (x_move (F.t 5 rfl)) fun a F => ?_
  refine la F rfl (x_iaddr_A Tryz.underlying23 ty3 ((H.rd 901 rfl)) (F.t 12 rfl) (F.t 13 rfl) (by omega) (by omega) _) fun a F => ?_
  refine la F rfl (x_load1 ty3 (F.t 14 rfl) (((H.rd 901 rfl)).cellA (gi_some (i := (k : Int)) (by omega) (by omega)))) fun a F => ?_
  refine lp rfl ?_
  refine w_call F (x_enterC (vs := #[.int .i64 (gi xs (k : Int))]) (caps := #[.pointer (some ⟨bl, 0, none⟩)]) (args := #[.int .i64 (gi xs (k : Int)), .pointer (some ⟨bl, 0, none⟩)]) Tryz.func81 (by kernel_rfl) rfl (F.t 11 rfl) (by simp only [bM, F.t 15 rfl] <;> rfl) rfl) (nodes1_calls _ (H.at 1 rfl) (gi xs (k : Int))) rfl rfl ?_
  rintro _ w ⟨rfl, hm_, hb_⟩; refine ⟨_, rfl, ?_⟩; clear F; intro a F; have H := H.put 1 rfl _ hm_ hb_
  refine wn (hK8 _ _ ?_)
  refine wp_cond_split (F.t 16 rfl) (fun hc16 => ?_) (fun hc16 => ?_)
  ·have hk16_2 := hc16; try simp only [bL] at hc16
   have hk16 := hk16_2
   have hfs := from_step hc9 hq0_1
   have hz : decide ((0 : Int) ≤ (k : Int)) = !nodesFrom last xs := by rw [decide_eq_true (by omega), hfs, show (decide (l < (gi xs (k : Int))) && nodeI (gi xs (k : Int))) = false from (by have h_ := hk16; simp only [Bool.not_eq_true'] at h_; exact h_)]; rfl
   refine sr fun _ hK9 => ?_
   refine la F rfl (x_move (F.t 5 rfl)) fun a F => ?_
   refine la F rfl (x_assign (F.t 17 rfl)) fun a F => ?_
   refine wn (hK9 _ _ ?_)
   refine wp_ret ?_
   try simp only [Exit.then, Exit.inBlock]
   exact fin_ret F (res1 F rfl rfl) ⟨_, rfl, hz, H.mods, _, H.at 1 rfl⟩
  have hk16_3 := hc16; try simp only [bL] at hc16
  have hk16 := hk16_3
  have hnx : nodesFrom last xs = nodesFrom (gi xs (k : Int)) (xs.drop (k + 1)) := by rw [from_step hc9 hq0_1, show (decide (l < (gi xs (k : Int))) && nodeI (gi xs (k : Int))) = true by simpa using hk16]; rfl
  refine wp_skip ?_
  refine hK6 _ _ ?_
  refine wp_region_lit ?_
  refine la F rfl (x_add (F.t 8 rfl) rfl (w64 (by omega) (by omega))) fun a F => ?_
  refine la F rfl (x_move (F.t 18 rfl)) fun a F => ?_
  refine wpList_nil ?_
  exact ⟨_, by omega, ⟨k + 1, (gi xs (k : Int)), rfl, by omega, hnx, ((((F.bare.add F 8 rfl).add F 7 rfl).add F 1 rfl).add F 0 rfl), H.sub _ (sub_cons (sub_cons (sub_nil _) 901 rfl) 1 rfl)⟩⟩
 have hk9_4 := hc9; try simp only [bL] at hc9
 obtain rfl : k = xs.length := by omega
 have hz : decide ((0 : Int) ≤ -1) = !nodesFrom last xs := by rw [hq0_1, List.drop_length]; rfl
 refine wp_exit ?_
 refine hK2 _ _ ?_
 refine sr fun _ hK10 => ?_
 refine la F rfl (x_assign rfl) fun a F => ?_
 refine wn (hK10 _ _ ?_)
 refine wp_ret ?_
 try simp only [Exit.then, Exit.inBlock]
 exact fin_ret F (res1 F rfl rfl) ⟨_, rfl, hz, H.mods, _, H.at 1 rfl⟩
theorem containsN_calls (w0 : World) {bl : Nat} {last : Int} (hbl : w0.heap[bl]? = some (.cells #[.int .i64 last] 3 (0, 0))) {ok : Nat → Prop} {A : Option Addr} {xs : List Int} {c : Nat} (hr : Rd (.int .i64) w0 ok A xs c) (hok : ∀ k, ok k → k < w0.heap.size) (hne : ∀ k, ok k → ¬ k = bl) : Calls Tryz.prog 80 #[.slice A xs.length c, .func (.func 81) #[] #[.pointer (some ⟨bl, 0, none⟩)]] w0 fun e w' => e = .returned (.bool (!nodesFrom last xs)) ∧ Mods (fun k => k = bl) w0 w' ∧ ∃ l', w'.heap[bl]? = some (.cells #[.int .i64 l'] 3 (0, 0)) := by
 refine cow Tryz.func80 rfl Tryz.ntmps80 (Nat.le_of_ble_eq_true rfl) fun a F => ?_
 have H := Hp.ownblk 1 hbl
 have H := H.readable 901 hr hok (fun i X hX k hk hk2 => by rcases get_one hX with ⟨_, rfl⟩ | ⟨_, h⟩; exact hne k hk2 hk; simp [Sx.get] at h)
 refine sr fun _ hK1 => ?_
 refine la F rfl (x_assign rfl) fun a F => ?_
 refine wn (hK1 _ _ ?_)
 refine sr fun _ hK2 => ?_
 refine la F rfl (x_move (F.t 0 rfl)) fun a F => ?_
 refine la F rfl (x_move (F.t 1 rfl)) fun a F => ?_
 refine lp rfl ?_
 refine w_call F (x_enter Tryz.func106 (by kernel_rfl) rfl (by simp only [bM, F.t 5 rfl, F.t 6 rfl] <;> rfl)) (indexN_calls _ (H.at 1 rfl) (H.rd 901 rfl) (fun k hk => H.inb 901 _ rfl k (.inr hk)) hne) rfl rfl ?_
 rintro _ w ⟨i_, rfl, hi_, hm_, l_, hb_⟩; refine ⟨_, rfl, ?_⟩; clear F; intro a F; have H := H.put 1 rfl _ hm_ hb_
 refine la F rfl (x_geq (F.t 7 rfl) rfl) fun a F => ?_
 refine la F rfl (x_assign (F.t 8 rfl)) fun a F => ?_
 refine wn (hK2 _ _ ?_)
 refine wp_ret ?_
 try simp only [Exit.then, Exit.inBlock]
 exact fin_ret F (res1 F rfl rfl) ⟨by rw [← hi_] <;> rfl, H.mods, _, H.at 1 rfl⟩
theorem nodes_calls (w0 : World) {ok : Nat → Prop} {A : Option Addr} {xs : List Int} {c : Nat} (hr : Rd (.int .i64) w0 ok A xs c) (v : Int) : Calls Tryz.prog 46 #[.slice A xs.length c, .int .i64 v] w0 fun e w' => e = .returned (.bool (decide (v ∈ xs) && nodesFrom (-1) xs)) ∧ Mods (fun _ => False) w0 w' := by
 refine cow Tryz.func46 rfl Tryz.ntmps46 (Nat.le_of_ble_eq_true rfl) fun a F => ?_
 have H := Hp.nil (fun _ => False) w0
 have H := H.arg 901 hr.all (fun _ h => ⟨h, fun h => h⟩)
 have hle901 := hr.le; unfold maxLen at hle901
 refine sr fun _ hK1 => ?_
 refine la F rfl (x_assign rfl) fun a F => ?_
 refine wn (hK1 _ _ ?_)
 refine sr fun _ hK2 => ?_
 refine lp rfl ?_
 refine w_alloc 5 F H rfl ty3 ?_
 clear F H; intro a w b5 F H
 refine lp rfl ?_
 refine w_store 5 H ty3 rfl (F.t 5 rfl) rfl rfl (one1 rfl rfl) (by first | decide | exact Nat.le_of_ble_eq_true rfl) ?_
 clear H; intro w H
 refine wn (hK2 _ _ ?_)
 refine sr fun _ hK3 => ?_
 refine la F rfl (x_move (F.t 0 rfl)) fun a F => ?_
 refine la F rfl (x_move (F.t 1 rfl)) fun a F => ?_
 refine lp rfl ?_
 refine w_call F (x_enter Tryz.func79 (by kernel_rfl) rfl (by simp only [bM, F.t 6 rfl, F.t 7 rfl] <;> rfl)) (contains_calls _ ((H.rd 901 rfl)) v) rfl rfl ?_
 rintro _ w ⟨rfl, hm_⟩; refine ⟨_, rfl, ?_⟩; clear F; intro a F; have H := H.same hm_
 refine la F rfl (x_move (F.t 8 rfl)) fun a F => ?_
 refine split_bool F 9 rfl (fun hb9 => ?_) (fun hb9 => ?_)
 ·have hc9 := hb9; try simp only [bL] at hc9
  refine lgs F hb9 rfl (x_move (F.t 0 rfl)) fun a F => ?_
  refine lgs F hb9 rfl (x_mkfunc (vs := #[.pointer (some ⟨b5, 0, none⟩)]) (by simp only [bM, F.t 5 rfl] <;> rfl)) fun a F => ?_
  refine lpo ((wo F rfl).trans (by rw [hb9]; rfl)) ?_
  refine w_call F (x_enter Tryz.func80 (by kernel_rfl) rfl (by simp only [bM, F.t 10 rfl, F.t 11 rfl] <;> rfl)) (containsN_calls _ (H.at 5 rfl) (H.rd 901 rfl) (fun k hk => H.inb 901 _ rfl k (.inr hk)) (fun k hk e => H.sep 5 901 _ _ (by decide) rfl rfl k e (.inr hk))) rfl rfl ?_
  rintro _ w ⟨rfl, hm_, l_, hb_⟩; refine ⟨_, rfl, ?_⟩; clear F; intro a F; have H := H.put 5 rfl _ hm_ hb_
  refine lgs F hb9 rfl (x_not (F.t 12 rfl)) fun a F => ?_
  refine la F rfl (x_pickT (F.t 9 rfl) hb9 (F.t 13 rfl)) fun a F => ?_
  refine la F rfl (x_assign (F.t 14 rfl)) fun a F => ?_
  refine wn (hK3 _ _ ?_)
  refine wp_ret ?_
  try simp only [Exit.then, Exit.inBlock]
  have hv : (!(!nodesFrom (-1) xs)) = (decide (v ∈ xs) && nodesFrom (-1) xs) := by simp [hc9]
  exact fin_ret F (res1 (v := .bool (!(!nodesFrom (-1) xs))) F rfl rfl) ⟨by rw [hv], H.mods⟩
 have hc9 := hb9; try simp only [bL] at hc9
 refine los F hb9 rfl fun a F => ?_
 refine los F hb9 rfl fun a F => ?_
 refine los F hb9 rfl fun a F => ?_
 refine los F hb9 rfl fun a F => ?_
 refine la F rfl (x_pickF (F.t 9 rfl) hb9 rfl) fun a F => ?_
 refine la F rfl (x_assign (F.t 14 rfl)) fun a F => ?_
 refine wn (hK3 _ _ ?_)
 refine wp_ret ?_
 try simp only [Exit.then, Exit.inBlock]
 have hv : false = (decide (v ∈ xs) && nodesFrom (-1) xs) := by simp [hc9]
 exact fin_ret F (res1 (v := .bool false) F rfl rfl) ⟨by rw [hv], H.mods⟩
theorem right1_calls (w0 : World) {pp : Bool} (hL : LibAt pp w0) {c : ChangeD} {okc0 : Nat → Prop} {Ac0 : Option Addr} {cc0 : Nat} (hrc0 : Rd StE w0 okc0 Ac0 c.timer.steps cc0) (hb : ChangeB c) : Calls Tryz.prog 48 #[.agg #[.int .i64 c.kind, .string (strOfNums c.key), .string (strOfNums c.value), .string (strOfNums c.timer.name), .int .i64 c.timer.ver, .int .u64 c.timer.tick, .int .u64 c.timer.every, .slice Ac0 c.timer.steps.length cc0]] w0 fun e w' => e = .returned (.bool (!rightC c)) ∧ Mods (fun _ => False) w0 w' := by
 refine cow Tryz.func48 rfl Tryz.ntmps48 (Nat.le_of_ble_eq_true rfl) fun a F => ?_
 have H := Hp.nil (fun _ => False) w0
 have H := H.arg 900 hrc0.all (fun _ h => ⟨h, fun h => h⟩)
 have hlec0 := hrc0.le; unfold maxLen at hlec0
 have H := H.libN 990 hL
 refine sr fun _ hK1 => ?_
 refine lp rfl ?_
 refine w_box 1 F H rfl (F.t 0 rfl) ?_
 clear F H; intro a w b1 F H
 refine la F rfl (x_assign rfl) fun a F => ?_
 refine wn (hK1 _ _ ?_)
 refine sr fun _ hK2 => ?_
 refine la F rfl (x_loadn ty66 (F.t 1 rfl) rfl (blk_whole (H.at 1 rfl))) fun a F => ?_
 refine lp rfl ?_
 refine w_call F (x_enter Tryz.func49 (by kernel_rfl) rfl (by simp only [bM, F.t 3 rfl] <;> rfl)) (rightC_calls _ (H.holds 990 _ rfl) ((H.rd 900 rfl)) hb) rfl rfl ?_
 rintro _ w ⟨rfl, hm_⟩; refine ⟨_, rfl, ?_⟩; clear F; intro a F; have H := H.same hm_
 refine la F rfl (x_not (F.t 4 rfl)) fun a F => ?_
 refine la F rfl (x_assign (F.t 5 rfl)) fun a F => ?_
 refine wn (hK2 _ _ ?_)
 refine wp_ret ?_
 try simp only [Exit.then, Exit.inBlock]
 exact fin_ret F (res1 F rfl rfl) ⟨rfl, H.mods⟩
theorem indexC_calls (w0 : World) {pp : Bool} (hL : LibAt pp w0) {ok : Nat → Prop} {A : Option Addr} {xs : List ChangeD} {c : Nat} (hr : Rd ChgE w0 ok A xs c) (hbs : ∀ c ∈ xs, ChangeB c) : Calls Tryz.prog 82 #[.slice A xs.length c, .func (.func 48) #[] #[]] w0 fun e w' => ∃ i, e = .returned (.int .i64 i) ∧ decide ((0 : Int) ≤ i) = !xs.all rightC ∧ Mods (fun _ => False) w0 w' := by
 refine cow Tryz.func82 rfl Tryz.ntmps82 (Nat.le_of_ble_eq_true rfl) fun a F => ?_
 have H := Hp.nil (fun _ => False) w0
 have H := H.arg 901 hr.all (fun _ h => ⟨h, fun h => h⟩)
 have hle901 := hr.le; unfold maxLen at hle901
 have H := H.libN 990 hL
 refine sr fun _ hK1 => ?_
 refine la F rfl (x_assign rfl) fun a F => ?_
 refine wn (hK1 _ _ ?_)
 refine wp_seq_k fun _ hK2 => ?_
 refine sr fun _ hK3 => ?_
 refine la F rfl (x_move (F.t 0 rfl)) fun a F => ?_
 refine la F rfl (x_len_slice Tryz.underlying24 (F.t 6 rfl)) fun a F => ?_
 refine la F rfl (x_move rfl) fun a F => ?_
 refine wn (hK3 _ _ ?_)
 refine wp_block ?_
 refine wp_loop_ghost (fun n_ a w => ∃ k : Nat, n_ = xs.length - k ∧ (k ≤ xs.length) ∧ ((xs.take k).all rightC = true) ∧ Fr 19 a [(0, .slice A xs.length c), (1, .func (.func 48) #[] #[]), (7, .int .i64 (xs.length : Int)), (8, .int .i64 (k : Int))] ∧ Hp (fun _ => False) w0 w [(901, .rd_ ChgE A xs c (fun k => k < w0.heap.size)), (990, .lib pp)]) (xs.length) ?_ ?_
 ·exact ⟨0, rfl, by omega, rfl, ((((F.bare.add F 8 rfl).add F 7 rfl).add F 1 rfl).add F 0 rfl), H.sub _ (sub_cons (sub_cons (sub_nil _) 990 rfl) 901 rfl)⟩
 rintro _ a w ⟨k, rfl, hq0_0, hq0_1, F, H⟩
 refine sr fun _ hK4 => ?_
 refine la F rfl (x_lss (F.t 8 rfl) (F.t 7 rfl)) fun a F => ?_
 refine wn (hK4 _ _ ?_)
 refine wp_seq_k fun _ hK5 => ?_
 refine wp_cond_split (F.t 9 rfl) (fun hc9 => ?_) (fun hc9 => ?_)
 ·have hk9_1 := hc9; try simp only [bL] at hc9
  refine wp_skip ?_
  refine hK5 _ _ ?_
  refine wp_seq_k fun _ hK6 => ?_
  refine wp_block ?_
  refine sr fun _ hK7 => ?_
  refine la F rfl (x_move (F.t 8 rfl)) fun a F => ?_
  refine la F rfl (x_assign (F.t 10 rfl)) fun a F => ?_
  refine wn (hK7 _ _ ?_)
  refine sr fun _ hK8 => ?_
  obtain ⟨fA1, fc1, hfr1, hf1_0, hf1_1, hf1_2, hf1_3, hf1_4, hf1_5, hf1_6, hf1_7, hfw1⟩ := rd_chg ((H.rd 901 rfl)) (gchg_some (xs := xs) (i := (k : Int)) (by omega) (by omega))
  have H := H.subrd 901 rfl 1007 hfr1 (fun _ h => h)
  have H := H.subcels 901 rfl 1499 hfw1 (Rd.inok ((H.rd 901 rfl)) (by omega) _)
  have H := H.subcel 901 rfl 1500 hf1_0 (Rd.inok ((H.rd 901 rfl)) (by omega) _)
  have H := H.subcel 901 rfl 1501 hf1_1 (Rd.inok ((H.rd 901 rfl)) (by omega) _)
  have H := H.subcel 901 rfl 1502 hf1_2 (Rd.inok ((H.rd 901 rfl)) (by omega) _)
  have H := H.subcel 901 rfl 1503 hf1_3 (Rd.inok ((H.rd 901 rfl)) (by omega) _)
  have H := H.subcel 901 rfl 1504 hf1_4 (Rd.inok ((H.rd 901 rfl)) (by omega) _)
  have H := H.subcel 901 rfl 1505 hf1_5 (Rd.inok ((H.rd 901 rfl)) (by omega) _)
  have H := H.subcel 901 rfl 1506 hf1_6 (Rd.inok ((H.rd 901 rfl)) (by omega) _)
  have H := H.subcel 901 rfl 1507 hf1_7 (Rd.inok ((H.rd 901 rfl)) (by omega) _)
  refine la F rfl (x_move (F.t 1 rfl)) fun a F => ?_
  refine la F rfl (x_move (F.t 0 rfl)) fun a F => ?_
  refine la F rfl (x_move (F.t 5 rfl)) fun a F => ?_
  refine la F rfl (x_iaddr_A Tryz.underlying24 ty66 ((H.rd 901 rfl)) (F.t 12 rfl) (F.t 13 rfl) (by omega) (by omega) _) fun a F => ?_
  refine la F rfl (x_loadn ty66 (F.t 14 rfl) rfl (H.holds 1499 _ rfl)) fun a F => ?_
  refine lp rfl ?_
  refine w_call F (x_enterC (vs := #[.agg #[.int .i64 (gchg xs (k : Int)).kind, .string (strOfNums (gchg xs (k : Int)).key), .string (strOfNums (gchg xs (k : Int)).value), .string (strOfNums (gchg xs (k : Int)).timer.name), .int .i64 (gchg xs (k : Int)).timer.ver, .int .u64 (gchg xs (k : Int)).timer.tick, .int .u64 (gchg xs (k : Int)).timer.every, .slice fA1 (gchg xs (k : Int)).timer.steps.length fc1]]) (caps := #[]) (args := #[.agg #[.int .i64 (gchg xs (k : Int)).kind, .string (strOfNums (gchg xs (k : Int)).key), .string (strOfNums (gchg xs (k : Int)).value), .string (strOfNums (gchg xs (k : Int)).timer.name), .int .i64 (gchg xs (k : Int)).timer.ver, .int .u64 (gchg xs (k : Int)).timer.tick, .int .u64 (gchg xs (k : Int)).timer.every, .slice fA1 (gchg xs (k : Int)).timer.steps.length fc1]]) Tryz.func48 (by kernel_rfl) rfl (F.t 11 rfl) (by simp only [bM, F.t 15 rfl] <;> rfl) rfl) (right1_calls _ (H.holds 990 _ rfl) (H.rd 1007 rfl) (hbs _ (gchg_mem (xs := xs) (j := k) (by omega)))) rfl rfl ?_
  rintro _ w ⟨rfl, hm_⟩; refine ⟨_, rfl, ?_⟩; clear F; intro a F; have H := H.same hm_
  refine wn (hK8 _ _ ?_)
  refine wp_cond_split (F.t 16 rfl) (fun hc16 => ?_) (fun hc16 => ?_)
  ·have hk16_2 := hc16; try simp only [bL] at hc16
   have hz : decide ((0 : Int) ≤ (k : Int)) = !xs.all rightC := by rw [decide_eq_true (by omega), right_bad hc9 (by simpa using hc16)]; rfl
   refine sr fun _ hK9 => ?_
   refine la F rfl (x_move (F.t 5 rfl)) fun a F => ?_
   refine la F rfl (x_assign (F.t 17 rfl)) fun a F => ?_
   refine wn (hK9 _ _ ?_)
   refine wp_ret ?_
   try simp only [Exit.then, Exit.inBlock]
   exact fin_ret F (res1 F rfl rfl) ⟨_, rfl, hz, H.mods⟩
  have hk16_3 := hc16; try simp only [bL] at hc16
  have hcr : rightC (gchg xs (k : Int)) = true := by simpa using hc16
  refine wp_skip ?_
  refine hK6 _ _ ?_
  refine wp_region_lit ?_
  refine la F rfl (x_add (F.t 8 rfl) rfl (w64 (by omega) (by omega))) fun a F => ?_
  refine la F rfl (x_move (F.t 18 rfl)) fun a F => ?_
  refine wpList_nil ?_
  exact ⟨_, by omega, ⟨k + 1, rfl, by omega, right_take hc9 hq0_1 hcr, ((((F.bare.add F 8 rfl).add F 7 rfl).add F 1 rfl).add F 0 rfl), H.sub _ (sub_cons (sub_cons (sub_nil _) 990 rfl) 901 rfl)⟩⟩
 have hk9_4 := hc9; try simp only [bL] at hc9
 obtain rfl : k = xs.length := by omega
 rw [List.take_length] at hq0_1
 have hz : decide ((0 : Int) ≤ -1) = !xs.all rightC := by rw [hq0_1]; rfl
 refine wp_exit ?_
 refine hK2 _ _ ?_
 refine sr fun _ hK10 => ?_
 refine la F rfl (x_assign rfl) fun a F => ?_
 refine wn (hK10 _ _ ?_)
 refine wp_ret ?_
 try simp only [Exit.then, Exit.inBlock]
 exact fin_ret F (res1 F rfl rfl) ⟨_, rfl, hz, H.mods⟩
theorem containsC_calls (w0 : World) {pp : Bool} (hL : LibAt pp w0) {ok : Nat → Prop} {A : Option Addr} {xs : List ChangeD} {c : Nat} (hr : Rd ChgE w0 ok A xs c) (hbs : ∀ c ∈ xs, ChangeB c) : Calls Tryz.prog 47 #[.slice A xs.length c, .func (.func 48) #[] #[]] w0 fun e w' => e = .returned (.bool (!xs.all rightC)) ∧ Mods (fun _ => False) w0 w' := by
 refine cow Tryz.func47 rfl Tryz.ntmps47 (Nat.le_of_ble_eq_true rfl) fun a F => ?_
 have H := Hp.nil (fun _ => False) w0
 have H := H.arg 901 hr.all (fun _ h => ⟨h, fun h => h⟩)
 have hle901 := hr.le; unfold maxLen at hle901
 have H := H.libN 990 hL
 refine sr fun _ hK1 => ?_
 refine la F rfl (x_assign rfl) fun a F => ?_
 refine wn (hK1 _ _ ?_)
 refine sr fun _ hK2 => ?_
 refine la F rfl (x_move (F.t 0 rfl)) fun a F => ?_
 refine la F rfl (x_move (F.t 1 rfl)) fun a F => ?_
 refine lp rfl ?_
 refine w_call F (x_enter Tryz.func82 (by kernel_rfl) rfl (by simp only [bM, F.t 5 rfl, F.t 6 rfl] <;> rfl)) (indexC_calls _ (H.holds 990 _ rfl) ((H.rd 901 rfl)) hbs) rfl rfl ?_
 rintro _ w ⟨i_, rfl, hi_, hm_⟩; refine ⟨_, rfl, ?_⟩; clear F; intro a F; have H := H.same hm_
 refine la F rfl (x_geq (F.t 7 rfl) rfl) fun a F => ?_
 refine la F rfl (x_assign (F.t 8 rfl)) fun a F => ?_
 refine wn (hK2 _ _ ?_)
 refine wp_ret ?_
 try simp only [Exit.then, Exit.inBlock]
 exact fin_ret F (res1 F rfl rfl) ⟨by rw [← hi_] <;> rfl, H.mods⟩
theorem rightM_calls (w0 : World) {pp : Bool} (hL : LibAt pp w0) {m : MessageD} {okm0 : Nat → Prop} {Am0 : Option Addr} {cm0 : Nat} (hrm0 : Rd (Rep.int .i64) w0 okm0 Am0 m.nodes cm0) {okm1 : Nat → Prop} {Am1 : Option Addr} {cm1 : Nat} (hrm1 : Rd ChgE w0 okm1 Am1 m.changes cm1) (hb : MessageB m) : Calls Tryz.prog 12 #[.agg #[.int .i64 m.kind, .int .i64 m.src, .int .i64 m.dst, .int .i64 m.tx, .slice Am0 m.nodes.length cm0, .slice Am1 m.changes.length cm1]] w0 fun e w' => e = .returned (.bool (rightM m)) ∧ Mods (fun _ => False) w0 w' := by
 refine cow Tryz.func12 rfl Tryz.ntmps12 (Nat.le_of_ble_eq_true rfl) fun a F => ?_
 have H := Hp.nil (fun _ => False) w0
 have H := H.arg 900 hrm0.all (fun _ h => ⟨h, fun h => h⟩)
 have hlem0 := hrm0.le; unfold maxLen at hlem0
 have H := H.arg 901 hrm1.all (fun _ h => ⟨h, fun h => h⟩)
 have hlem1 := hrm1.le; unfold maxLen at hlem1
 have H := H.libN 990 hL
 refine sr fun _ hK1 => ?_
 refine lp rfl ?_
 refine w_box 1 F H rfl (F.t 0 rfl) ?_
 clear F H; intro a w b1 F H
 refine la F rfl (x_assign rfl) fun a F => ?_
 refine wn (hK1 _ _ ?_)
 refine wp_seq_k fun _ hK2 => ?_
 refine wp_block ?_
 refine sr fun _ hK3 => ?_
 refine la F rfl (x_faddr Tryz.underlying26 rfl ty22 (by decide) (F.t 1 rfl) rfl) fun a F => ?_
 refine la F rfl (x_load1 ty22 (F.t 4 rfl) (blk_cell (H.at 1 rfl) 0 rfl)) fun a F => ?_
 refine la F rfl (x_lss (F.t 5 rfl) rfl) fun a F => ?_
 refine la F rfl (x_move (F.t 6 rfl)) fun a F => ?_
 refine split_bool F 7 rfl (fun hb7 => ?_) (fun hb7 => ?_)
 ·have hc7 := hb7; try simp only [bL] at hc7
  refine los F hb7 rfl fun a F => ?_
  refine los F hb7 rfl fun a F => ?_
  refine los F hb7 rfl fun a F => ?_
  refine la F rfl (x_pickT (F.t 7 rfl) hb7 rfl) fun a F => ?_
  refine la F rfl (x_move (F.t 11 rfl)) fun a F => ?_
  refine lo F rfl fun a F => ?_
  refine lo F rfl fun a F => ?_
  refine lo F rfl fun a F => ?_
  refine lo F rfl fun a F => ?_
  refine la F rfl (x_pickT (F.t 12 rfl) rfl rfl) fun a F => ?_
  refine la F rfl (x_move (F.t 17 rfl)) fun a F => ?_
  refine lo F rfl fun a F => ?_
  refine lo F rfl fun a F => ?_
  refine lo F rfl fun a F => ?_
  refine lo F rfl fun a F => ?_
  refine la F rfl (x_pickT (F.t 18 rfl) rfl rfl) fun a F => ?_
  refine la F rfl (x_move (F.t 23 rfl)) fun a F => ?_
  refine lo F rfl fun a F => ?_
  refine lo F rfl fun a F => ?_
  refine lo F rfl fun a F => ?_
  refine la F rfl (x_pickT (F.t 24 rfl) rfl rfl) fun a F => ?_
  refine la F rfl (x_move (F.t 28 rfl)) fun a F => ?_
  refine lo F rfl fun a F => ?_
  refine lo F rfl fun a F => ?_
  refine lo F rfl fun a F => ?_
  refine la F rfl (x_pickT (F.t 29 rfl) rfl rfl) fun a F => ?_
  refine la F rfl (x_assign (F.t 33 rfl)) fun a F => ?_
  refine wn (hK3 _ _ ?_)
  refine wp_cond_true (F.t 3 rfl) ?_
  refine sr fun _ hK4 => ?_
  refine la F rfl (x_assign rfl) fun a F => ?_
  refine wn (hK4 _ _ ?_)
  refine wp_ret ?_
  try simp only [Exit.then, Exit.inBlock]
  have hv : false = rightM m := by unfold rightM; first | (simp [hc7]; done) | (simp [hc7]; omega) | (simp [hc7]; intros; omega) | (rw [Bool.eq_iff_iff]; simp [hc7]; first | omega | (intros; omega)) | (simp [hc7, -List.length_eq_zero_iff]; omega) | (rw [Bool.eq_iff_iff]; simp [hc7, -List.length_eq_zero_iff]; first | omega | (intros; omega)) | (simp [hc7, -List.length_eq_zero_iff]; cases m.changes.all rightC <;> simp <;> omega) | (simp [hc7]; intros; simp_all; done)
  exact fin_ret F (res1 (v := .bool false) F rfl rfl) ⟨by rw [hv], H.mods⟩
 have hc7 := hb7; try simp only [bL] at hc7
 refine lgs F hb7 rfl (x_faddr Tryz.underlying26 rfl ty22 (by decide) (F.t 1 rfl) rfl) fun a F => ?_
 refine lgs F hb7 rfl (x_load1 ty22 (F.t 8 rfl) (blk_cell (H.at 1 rfl) 0 rfl)) fun a F => ?_
 refine lgs F hb7 rfl (x_gtr (F.t 9 rfl) rfl) fun a F => ?_
 refine la F rfl (x_pickF (F.t 7 rfl) hb7 (F.t 10 rfl)) fun a F => ?_
 refine la F rfl (x_move (F.t 11 rfl)) fun a F => ?_
 refine split_bool F 12 rfl (fun hb12 => ?_) (fun hb12 => ?_)
 ·have hc12 := hb12; try simp only [bL] at hc12
  refine los F hb12 rfl fun a F => ?_
  refine los F hb12 rfl fun a F => ?_
  refine los F hb12 rfl fun a F => ?_
  refine los F hb12 rfl fun a F => ?_
  refine la F rfl (x_pickT (F.t 12 rfl) hb12 rfl) fun a F => ?_
  refine la F rfl (x_move (F.t 17 rfl)) fun a F => ?_
  refine lo F rfl fun a F => ?_
  refine lo F rfl fun a F => ?_
  refine lo F rfl fun a F => ?_
  refine lo F rfl fun a F => ?_
  refine la F rfl (x_pickT (F.t 18 rfl) rfl rfl) fun a F => ?_
  refine la F rfl (x_move (F.t 23 rfl)) fun a F => ?_
  refine lo F rfl fun a F => ?_
  refine lo F rfl fun a F => ?_
  refine lo F rfl fun a F => ?_
  refine la F rfl (x_pickT (F.t 24 rfl) rfl rfl) fun a F => ?_
  refine la F rfl (x_move (F.t 28 rfl)) fun a F => ?_
  refine lo F rfl fun a F => ?_
  refine lo F rfl fun a F => ?_
  refine lo F rfl fun a F => ?_
  refine la F rfl (x_pickT (F.t 29 rfl) rfl rfl) fun a F => ?_
  refine la F rfl (x_assign (F.t 33 rfl)) fun a F => ?_
  refine wn (hK3 _ _ ?_)
  refine wp_cond_true (F.t 3 rfl) ?_
  refine sr fun _ hK5 => ?_
  refine la F rfl (x_assign rfl) fun a F => ?_
  refine wn (hK5 _ _ ?_)
  refine wp_ret ?_
  try simp only [Exit.then, Exit.inBlock]
  have hv : false = rightM m := by unfold rightM; first | (simp [hc7, hc12]; done) | (simp [hc7, hc12]; omega) | (simp [hc7, hc12]; intros; omega) | (rw [Bool.eq_iff_iff]; simp [hc7, hc12]; first | omega | (intros; omega)) | (simp [hc7, hc12, -List.length_eq_zero_iff]; omega) | (rw [Bool.eq_iff_iff]; simp [hc7, hc12, -List.length_eq_zero_iff]; first | omega | (intros; omega)) | (simp [hc7, hc12, -List.length_eq_zero_iff]; cases m.changes.all rightC <;> simp <;> omega) | (simp [hc7, hc12]; intros; simp_all; done)
  exact fin_ret F (res1 (v := .bool false) F rfl rfl) ⟨by rw [hv], H.mods⟩
 have hc12 := hb12; try simp only [bL] at hc12
 refine lgs F hb12 rfl (x_faddr Tryz.underlying26 rfl ty3 (by decide) (F.t 1 rfl) rfl) fun a F => ?_
 refine lgs F hb12 rfl (x_load1 ty3 (F.t 13 rfl) (blk_cell (H.at 1 rfl) 1 rfl)) fun a F => ?_
 refine lpo ((wo F rfl).trans (by rw [hb12]; rfl)) ?_
 refine w_call F (x_enter Tryz.func45 (by kernel_rfl) rfl (by simp only [bM, F.t 14 rfl] <;> rfl)) (node_calls _ m.src) rfl rfl ?_
 rintro _ w ⟨rfl, hm_⟩; refine ⟨_, rfl, ?_⟩; clear F; intro a F; have H := H.same hm_
 refine lgs F hb12 rfl (x_not (F.t 15 rfl)) fun a F => ?_
 refine la F rfl (x_pickF (F.t 12 rfl) hb12 (F.t 16 rfl)) fun a F => ?_
 refine la F rfl (x_move (F.t 17 rfl)) fun a F => ?_
 refine split_bool F 18 rfl (fun hb18 => ?_) (fun hb18 => ?_)
 ·have hc18 := hb18; try simp only [bL] at hc18
  refine los F hb18 rfl fun a F => ?_
  refine los F hb18 rfl fun a F => ?_
  refine los F hb18 rfl fun a F => ?_
  refine los F hb18 rfl fun a F => ?_
  refine la F rfl (x_pickT (F.t 18 rfl) hb18 rfl) fun a F => ?_
  refine la F rfl (x_move (F.t 23 rfl)) fun a F => ?_
  refine lo F rfl fun a F => ?_
  refine lo F rfl fun a F => ?_
  refine lo F rfl fun a F => ?_
  refine la F rfl (x_pickT (F.t 24 rfl) rfl rfl) fun a F => ?_
  refine la F rfl (x_move (F.t 28 rfl)) fun a F => ?_
  refine lo F rfl fun a F => ?_
  refine lo F rfl fun a F => ?_
  refine lo F rfl fun a F => ?_
  refine la F rfl (x_pickT (F.t 29 rfl) rfl rfl) fun a F => ?_
  refine la F rfl (x_assign (F.t 33 rfl)) fun a F => ?_
  refine wn (hK3 _ _ ?_)
  refine wp_cond_true (F.t 3 rfl) ?_
  refine sr fun _ hK6 => ?_
  refine la F rfl (x_assign rfl) fun a F => ?_
  refine wn (hK6 _ _ ?_)
  refine wp_ret ?_
  try simp only [Exit.then, Exit.inBlock]
  have hv : false = rightM m := by unfold rightM; first | (simp [hc7, hc12, hc18]; done) | (simp [hc7, hc12, hc18]; omega) | (simp [hc7, hc12, hc18]; intros; omega) | (rw [Bool.eq_iff_iff]; simp [hc7, hc12, hc18]; first | omega | (intros; omega)) | (simp [hc7, hc12, hc18, -List.length_eq_zero_iff]; omega) | (rw [Bool.eq_iff_iff]; simp [hc7, hc12, hc18, -List.length_eq_zero_iff]; first | omega | (intros; omega)) | (simp [hc7, hc12, hc18, -List.length_eq_zero_iff]; cases m.changes.all rightC <;> simp <;> omega) | (simp [hc7, hc12, hc18]; intros; simp_all; done)
  exact fin_ret F (res1 (v := .bool false) F rfl rfl) ⟨by rw [hv], H.mods⟩
 have hc18 := hb18; try simp only [bL] at hc18
 refine lgs F hb18 rfl (x_faddr Tryz.underlying26 rfl ty3 (by decide) (F.t 1 rfl) rfl) fun a F => ?_
 refine lgs F hb18 rfl (x_load1 ty3 (F.t 19 rfl) (blk_cell (H.at 1 rfl) 2 rfl)) fun a F => ?_
 refine lpo ((wo F rfl).trans (by rw [hb18]; rfl)) ?_
 refine w_call F (x_enter Tryz.func45 (by kernel_rfl) rfl (by simp only [bM, F.t 20 rfl] <;> rfl)) (node_calls _ m.dst) rfl rfl ?_
 rintro _ w ⟨rfl, hm_⟩; refine ⟨_, rfl, ?_⟩; clear F; intro a F; have H := H.same hm_
 refine lgs F hb18 rfl (x_not (F.t 21 rfl)) fun a F => ?_
 refine la F rfl (x_pickF (F.t 18 rfl) hb18 (F.t 22 rfl)) fun a F => ?_
 refine la F rfl (x_move (F.t 23 rfl)) fun a F => ?_
 refine split_bool F 24 rfl (fun hb24 => ?_) (fun hb24 => ?_)
 ·have hc24 := hb24; try simp only [bL] at hc24
  refine los F hb24 rfl fun a F => ?_
  refine los F hb24 rfl fun a F => ?_
  refine los F hb24 rfl fun a F => ?_
  refine la F rfl (x_pickT (F.t 24 rfl) hb24 rfl) fun a F => ?_
  refine la F rfl (x_move (F.t 28 rfl)) fun a F => ?_
  refine lo F rfl fun a F => ?_
  refine lo F rfl fun a F => ?_
  refine lo F rfl fun a F => ?_
  refine la F rfl (x_pickT (F.t 29 rfl) rfl rfl) fun a F => ?_
  refine la F rfl (x_assign (F.t 33 rfl)) fun a F => ?_
  refine wn (hK3 _ _ ?_)
  refine wp_cond_true (F.t 3 rfl) ?_
  refine sr fun _ hK7 => ?_
  refine la F rfl (x_assign rfl) fun a F => ?_
  refine wn (hK7 _ _ ?_)
  refine wp_ret ?_
  try simp only [Exit.then, Exit.inBlock]
  have hv : false = rightM m := by unfold rightM; first | (simp [hc7, hc12, hc18, hc24]; done) | (simp [hc7, hc12, hc18, hc24]; omega) | (simp [hc7, hc12, hc18, hc24]; intros; omega) | (rw [Bool.eq_iff_iff]; simp [hc7, hc12, hc18, hc24]; first | omega | (intros; omega)) | (simp [hc7, hc12, hc18, hc24, -List.length_eq_zero_iff]; omega) | (rw [Bool.eq_iff_iff]; simp [hc7, hc12, hc18, hc24, -List.length_eq_zero_iff]; first | omega | (intros; omega)) | (simp [hc7, hc12, hc18, hc24, -List.length_eq_zero_iff]; cases m.changes.all rightC <;> simp <;> omega) | (simp [hc7, hc12, hc18, hc24]; intros; simp_all; done)
  exact fin_ret F (res1 (v := .bool false) F rfl rfl) ⟨by rw [hv], H.mods⟩
 have hc24 := hb24; try simp only [bL] at hc24
 refine lgs F hb24 rfl (x_faddr Tryz.underlying26 rfl ty3 (by decide) (F.t 1 rfl) rfl) fun a F => ?_
 refine lgs F hb24 rfl (x_load1 ty3 (F.t 25 rfl) (blk_cell (H.at 1 rfl) 3 rfl)) fun a F => ?_
 refine lgs F hb24 rfl (x_lss (F.t 26 rfl) rfl) fun a F => ?_
 refine la F rfl (x_pickF (F.t 24 rfl) hb24 (F.t 27 rfl)) fun a F => ?_
 refine la F rfl (x_move (F.t 28 rfl)) fun a F => ?_
 refine split_bool F 29 rfl (fun hb29 => ?_) (fun hb29 => ?_)
 ·have hc29 := hb29; try simp only [bL] at hc29
  refine los F hb29 rfl fun a F => ?_
  refine los F hb29 rfl fun a F => ?_
  refine los F hb29 rfl fun a F => ?_
  refine la F rfl (x_pickT (F.t 29 rfl) hb29 rfl) fun a F => ?_
  refine la F rfl (x_assign (F.t 33 rfl)) fun a F => ?_
  refine wn (hK3 _ _ ?_)
  refine wp_cond_true (F.t 3 rfl) ?_
  refine sr fun _ hK8 => ?_
  refine la F rfl (x_assign rfl) fun a F => ?_
  refine wn (hK8 _ _ ?_)
  refine wp_ret ?_
  try simp only [Exit.then, Exit.inBlock]
  have hv : false = rightM m := by unfold rightM; first | (simp [hc7, hc12, hc18, hc24, hc29]; done) | (simp [hc7, hc12, hc18, hc24, hc29]; omega) | (simp [hc7, hc12, hc18, hc24, hc29]; intros; omega) | (rw [Bool.eq_iff_iff]; simp [hc7, hc12, hc18, hc24, hc29]; first | omega | (intros; omega)) | (simp [hc7, hc12, hc18, hc24, hc29, -List.length_eq_zero_iff]; omega) | (rw [Bool.eq_iff_iff]; simp [hc7, hc12, hc18, hc24, hc29, -List.length_eq_zero_iff]; first | omega | (intros; omega)) | (simp [hc7, hc12, hc18, hc24, hc29, -List.length_eq_zero_iff]; cases m.changes.all rightC <;> simp <;> omega) | (simp [hc7, hc12, hc18, hc24, hc29]; intros; simp_all; done)
  exact fin_ret F (res1 (v := .bool false) F rfl rfl) ⟨by rw [hv], H.mods⟩
 have hc29 := hb29; try simp only [bL] at hc29
 refine lgs F hb29 rfl (x_faddr Tryz.underlying26 rfl ty3 (by decide) (F.t 1 rfl) rfl) fun a F => ?_
 refine lgs F hb29 rfl (x_load1 ty3 (F.t 30 rfl) (blk_cell (H.at 1 rfl) 3 rfl)) fun a F => ?_
 refine lgs F hb29 rfl (x_gtr (F.t 31 rfl) rfl) fun a F => ?_
 refine la F rfl (x_pickF (F.t 29 rfl) hb29 (F.t 32 rfl)) fun a F => ?_
 refine la F rfl (x_assign (F.t 33 rfl)) fun a F => ?_
 refine wn (hK3 _ _ ?_)
 refine wp_cond_split (F.t 3 rfl) (fun hc3 => ?_) (fun hc3 => ?_)
 ·have hk3_1 := hc3; try simp only [bL] at hc3
  refine sr fun _ hK9 => ?_
  refine la F rfl (x_assign rfl) fun a F => ?_
  refine wn (hK9 _ _ ?_)
  refine wp_ret ?_
  try simp only [Exit.then, Exit.inBlock]
  have hv : false = rightM m := by unfold rightM; first | (simp [hc7, hc12, hc18, hc24, hc29, hc3]; done) | (simp [hc7, hc12, hc18, hc24, hc29, hc3]; omega) | (simp [hc7, hc12, hc18, hc24, hc29, hc3]; intros; omega) | (rw [Bool.eq_iff_iff]; simp [hc7, hc12, hc18, hc24, hc29, hc3]; first | omega | (intros; omega)) | (simp [hc7, hc12, hc18, hc24, hc29, hc3, -List.length_eq_zero_iff]; omega) | (rw [Bool.eq_iff_iff]; simp [hc7, hc12, hc18, hc24, hc29, hc3, -List.length_eq_zero_iff]; first | omega | (intros; omega)) | (simp [hc7, hc12, hc18, hc24, hc29, hc3, -List.length_eq_zero_iff]; cases m.changes.all rightC <;> simp <;> omega) | (simp [hc7, hc12, hc18, hc24, hc29, hc3]; intros; simp_all; done)
  exact fin_ret F (res1 (v := .bool false) F rfl rfl) ⟨by rw [hv], H.mods⟩
 have hk3_2 := hc3; try simp only [bL] at hc3
 refine sr fun _ hK10 => ?_
 refine la F rfl (x_faddr Tryz.underlying26 rfl ty22 (by decide) (F.t 1 rfl) rfl) fun a F => ?_
 refine la F rfl (x_load1 ty22 (F.t 35 rfl) (blk_cell (H.at 1 rfl) 0 rfl)) fun a F => ?_
 refine la F rfl (x_neq (F.t 36 rfl) rfl) fun a F => ?_
 refine la F rfl (x_assign (F.t 37 rfl)) fun a F => ?_
 refine wn (hK10 _ _ ?_)
 refine wp_cond_split (F.t 34 rfl) (fun hc34 => ?_) (fun hc34 => ?_)
 ·have hk34_3 := hc34; try simp only [bL] at hc34
  refine sr fun _ hK11 => ?_
  refine la F rfl (x_faddr Tryz.underlying26 rfl ty23 (by decide) (F.t 1 rfl) rfl) fun a F => ?_
  refine la F rfl (x_load1 ty23 (F.t 38 rfl) (blk_cell (H.at 1 rfl) 4 rfl)) fun a F => ?_
  refine la F rfl (x_len_slice Tryz.underlying23 (F.t 39 rfl)) fun a F => ?_
  refine la F rfl (x_eql (F.t 40 rfl) rfl) fun a F => ?_
  refine la F rfl (x_move (F.t 41 rfl)) fun a F => ?_
  refine split_bool F 42 rfl (fun hb42 => ?_) (fun hb42 => ?_)
  ·have hc42 := hb42; try simp only [bL] at hc42
   refine lgs F hb42 rfl (x_faddr Tryz.underlying26 rfl ty24 (by decide) (F.t 1 rfl) rfl) fun a F => ?_
   refine lgs F hb42 rfl (x_load1 ty24 (F.t 43 rfl) (blk_cell (H.at 1 rfl) 5 rfl)) fun a F => ?_
   refine lgs F hb42 rfl (x_len_slice Tryz.underlying24 (F.t 44 rfl)) fun a F => ?_
   refine lgs F hb42 rfl (x_eql (F.t 45 rfl) rfl) fun a F => ?_
   refine la F rfl (x_pickT (F.t 42 rfl) hb42 (F.t 46 rfl)) fun a F => ?_
   refine la F rfl (x_assign (F.t 47 rfl)) fun a F => ?_
   refine wn (hK11 _ _ ?_)
   refine wp_ret ?_
   try simp only [Exit.then, Exit.inBlock]
   have hv : (decide ((m.changes.length : Int) = 0)) = rightM m := by unfold rightM; first | (simp [hc7, hc12, hc18, hc24, hc29, hc3, hc34, hc42]; done) | (simp [hc7, hc12, hc18, hc24, hc29, hc3, hc34, hc42]; omega) | (simp [hc7, hc12, hc18, hc24, hc29, hc3, hc34, hc42]; intros; omega) | (rw [Bool.eq_iff_iff]; simp [hc7, hc12, hc18, hc24, hc29, hc3, hc34, hc42]; first | omega | (intros; omega)) | (simp [hc7, hc12, hc18, hc24, hc29, hc3, hc34, hc42, -List.length_eq_zero_iff]; omega) | (rw [Bool.eq_iff_iff]; simp [hc7, hc12, hc18, hc24, hc29, hc3, hc34, hc42, -List.length_eq_zero_iff]; first | omega | (intros; omega)) | (simp [hc7, hc12, hc18, hc24, hc29, hc3, hc34, hc42, -List.length_eq_zero_iff]; cases m.changes.all rightC <;> simp <;> omega) | (simp [hc7, hc12, hc18, hc24, hc29, hc3, hc34, hc42]; intros; simp_all; done)
   exact fin_ret F (res1 (v := .bool (decide ((m.changes.length : Int) = 0))) F rfl rfl) ⟨by rw [hv], H.mods⟩
  have hc42 := hb42; try simp only [bL] at hc42
  refine los F hb42 rfl fun a F => ?_
  refine los F hb42 rfl fun a F => ?_
  refine los F hb42 rfl fun a F => ?_
  refine los F hb42 rfl fun a F => ?_
  refine la F rfl (x_pickF (F.t 42 rfl) hb42 rfl) fun a F => ?_
  refine la F rfl (x_assign (F.t 47 rfl)) fun a F => ?_
  refine wn (hK11 _ _ ?_)
  refine wp_ret ?_
  try simp only [Exit.then, Exit.inBlock]
  have hv : false = rightM m := by unfold rightM; first | (simp [hc7, hc12, hc18, hc24, hc29, hc3, hc34, hc42]; done) | (simp [hc7, hc12, hc18, hc24, hc29, hc3, hc34, hc42]; omega) | (simp [hc7, hc12, hc18, hc24, hc29, hc3, hc34, hc42]; intros; omega) | (rw [Bool.eq_iff_iff]; simp [hc7, hc12, hc18, hc24, hc29, hc3, hc34, hc42]; first | omega | (intros; omega)) | (simp [hc7, hc12, hc18, hc24, hc29, hc3, hc34, hc42, -List.length_eq_zero_iff]; omega) | (rw [Bool.eq_iff_iff]; simp [hc7, hc12, hc18, hc24, hc29, hc3, hc34, hc42, -List.length_eq_zero_iff]; first | omega | (intros; omega)) | (simp [hc7, hc12, hc18, hc24, hc29, hc3, hc34, hc42, -List.length_eq_zero_iff]; cases m.changes.all rightC <;> simp <;> omega) | (simp [hc7, hc12, hc18, hc24, hc29, hc3, hc34, hc42]; intros; simp_all; done)
  exact fin_ret F (res1 (v := .bool false) F rfl rfl) ⟨by rw [hv], H.mods⟩
 have hk34_4 := hc34; try simp only [bL] at hc34
 refine wp_skip ?_
 refine hK2 _ _ ?_
 refine sr fun _ hK12 => ?_
 refine la F rfl (x_faddr Tryz.underlying26 rfl ty23 (by decide) (F.t 1 rfl) rfl) fun a F => ?_
 refine la F rfl (x_load1 ty23 (F.t 48 rfl) (blk_cell (H.at 1 rfl) 4 rfl)) fun a F => ?_
 refine la F rfl (x_faddr Tryz.underlying26 rfl ty3 (by decide) (F.t 1 rfl) rfl) fun a F => ?_
 refine la F rfl (x_load1 ty3 (F.t 50 rfl) (blk_cell (H.at 1 rfl) 2 rfl)) fun a F => ?_
 refine lp rfl ?_
 refine w_call F (x_enter Tryz.func46 (by kernel_rfl) rfl (by simp only [bM, F.t 49 rfl, F.t 51 rfl] <;> rfl)) (nodes_calls _ ((H.rd 900 rfl)) m.dst) rfl rfl ?_
 rintro _ w ⟨rfl, hm_⟩; refine ⟨_, rfl, ?_⟩; clear F; intro a F; have H := H.same hm_
 refine la F rfl (x_move (F.t 52 rfl)) fun a F => ?_
 refine split_bool F 53 rfl (fun hb53 => ?_) (fun hb53 => ?_)
 ·have hc53 := hb53; try simp only [bL] at hc53
  refine lgs F hb53 rfl (x_faddr Tryz.underlying26 rfl ty24 (by decide) (F.t 1 rfl) rfl) fun a F => ?_
  refine lgs F hb53 rfl (x_load1 ty24 (F.t 54 rfl) (blk_cell (H.at 1 rfl) 5 rfl)) fun a F => ?_
  refine lgs F hb53 rfl (x_len_slice Tryz.underlying24 (F.t 55 rfl)) fun a F => ?_
  refine lgs F hb53 rfl (x_leq (F.t 56 rfl) rfl) fun a F => ?_
  refine la F rfl (x_pickT (F.t 53 rfl) hb53 (F.t 57 rfl)) fun a F => ?_
  refine la F rfl (x_move (F.t 58 rfl)) fun a F => ?_
  refine split_bool F 59 rfl (fun hb59 => ?_) (fun hb59 => ?_)
  ·have hc59 := hb59; try simp only [bL] at hc59
   refine lgs F hb59 rfl (x_faddr Tryz.underlying26 rfl ty24 (by decide) (F.t 1 rfl) rfl) fun a F => ?_
   refine lgs F hb59 rfl (x_load1 ty24 (F.t 60 rfl) (blk_cell (H.at 1 rfl) 5 rfl)) fun a F => ?_
   refine lpo ((wo F rfl).trans (by rw [hb59]; rfl)) ?_
   refine w_call F (x_enter Tryz.func47 (by kernel_rfl) rfl (by simp only [bM, F.t 61 rfl] <;> rfl)) (containsC_calls _ (H.holds 990 _ rfl) ((H.rd 901 rfl)) hb.changes) rfl rfl ?_
   rintro _ w ⟨rfl, hm_⟩; refine ⟨_, rfl, ?_⟩; clear F; intro a F; have H := H.same hm_
   refine lgs F hb59 rfl (x_not (F.t 62 rfl)) fun a F => ?_
   refine la F rfl (x_pickT (F.t 59 rfl) hb59 (F.t 63 rfl)) fun a F => ?_
   refine la F rfl (x_assign (F.t 64 rfl)) fun a F => ?_
   refine wn (hK12 _ _ ?_)
   refine wp_ret ?_
   try simp only [Exit.then, Exit.inBlock]
   have hv : (!(!m.changes.all rightC)) = rightM m := by unfold rightM; first | (simp [hc7, hc12, hc18, hc24, hc29, hc3, hc34, hc53, hc59]; done) | (simp [hc7, hc12, hc18, hc24, hc29, hc3, hc34, hc53, hc59]; omega) | (simp [hc7, hc12, hc18, hc24, hc29, hc3, hc34, hc53, hc59]; intros; omega) | (rw [Bool.eq_iff_iff]; simp [hc7, hc12, hc18, hc24, hc29, hc3, hc34, hc53, hc59]; first | omega | (intros; omega)) | (simp [hc7, hc12, hc18, hc24, hc29, hc3, hc34, hc53, hc59, -List.length_eq_zero_iff]; omega) | (rw [Bool.eq_iff_iff]; simp [hc7, hc12, hc18, hc24, hc29, hc3, hc34, hc53, hc59, -List.length_eq_zero_iff]; first | omega | (intros; omega)) | (simp [hc7, hc12, hc18, hc24, hc29, hc3, hc34, hc53, hc59, -List.length_eq_zero_iff]; cases m.changes.all rightC <;> simp <;> omega) | (simp [hc7, hc12, hc18, hc24, hc29, hc3, hc34, hc53, hc59]; intros; simp_all; done)
   exact fin_ret F (res1 (v := .bool (!(!m.changes.all rightC))) F rfl rfl) ⟨by rw [hv], H.mods⟩
  have hc59 := hb59; try simp only [bL] at hc59
  refine los F hb59 rfl fun a F => ?_
  refine los F hb59 rfl fun a F => ?_
  refine los F hb59 rfl fun a F => ?_
  refine los F hb59 rfl fun a F => ?_
  refine la F rfl (x_pickF (F.t 59 rfl) hb59 rfl) fun a F => ?_
  refine la F rfl (x_assign (F.t 64 rfl)) fun a F => ?_
  refine wn (hK12 _ _ ?_)
  refine wp_ret ?_
  try simp only [Exit.then, Exit.inBlock]
  have hv : false = rightM m := by unfold rightM; first | (simp [hc7, hc12, hc18, hc24, hc29, hc3, hc34, hc53, hc59]; done) | (simp [hc7, hc12, hc18, hc24, hc29, hc3, hc34, hc53, hc59]; omega) | (simp [hc7, hc12, hc18, hc24, hc29, hc3, hc34, hc53, hc59]; intros; omega) | (rw [Bool.eq_iff_iff]; simp [hc7, hc12, hc18, hc24, hc29, hc3, hc34, hc53, hc59]; first | omega | (intros; omega)) | (simp [hc7, hc12, hc18, hc24, hc29, hc3, hc34, hc53, hc59, -List.length_eq_zero_iff]; omega) | (rw [Bool.eq_iff_iff]; simp [hc7, hc12, hc18, hc24, hc29, hc3, hc34, hc53, hc59, -List.length_eq_zero_iff]; first | omega | (intros; omega)) | (simp [hc7, hc12, hc18, hc24, hc29, hc3, hc34, hc53, hc59, -List.length_eq_zero_iff]; cases m.changes.all rightC <;> simp <;> omega) | (simp [hc7, hc12, hc18, hc24, hc29, hc3, hc34, hc53, hc59]; intros; simp_all; done)
  exact fin_ret F (res1 (v := .bool false) F rfl rfl) ⟨by rw [hv], H.mods⟩
 have hc53 := hb53; try simp only [bL] at hc53
 refine los F hb53 rfl fun a F => ?_
 refine los F hb53 rfl fun a F => ?_
 refine los F hb53 rfl fun a F => ?_
 refine los F hb53 rfl fun a F => ?_
 refine la F rfl (x_pickF (F.t 53 rfl) hb53 rfl) fun a F => ?_
 refine la F rfl (x_move (F.t 58 rfl)) fun a F => ?_
 refine lo F rfl fun a F => ?_
 refine lo F rfl fun a F => ?_
 refine lo F rfl fun a F => ?_
 refine lo F rfl fun a F => ?_
 refine la F rfl (x_pickF (F.t 59 rfl) rfl rfl) fun a F => ?_
 refine la F rfl (x_assign (F.t 64 rfl)) fun a F => ?_
 refine wn (hK12 _ _ ?_)
 refine wp_ret ?_
 try simp only [Exit.then, Exit.inBlock]
 have hv : false = rightM m := by unfold rightM; first | (simp [hc7, hc12, hc18, hc24, hc29, hc3, hc34, hc53]; done) | (simp [hc7, hc12, hc18, hc24, hc29, hc3, hc34, hc53]; omega) | (simp [hc7, hc12, hc18, hc24, hc29, hc3, hc34, hc53]; intros; omega) | (rw [Bool.eq_iff_iff]; simp [hc7, hc12, hc18, hc24, hc29, hc3, hc34, hc53]; first | omega | (intros; omega)) | (simp [hc7, hc12, hc18, hc24, hc29, hc3, hc34, hc53, -List.length_eq_zero_iff]; omega) | (rw [Bool.eq_iff_iff]; simp [hc7, hc12, hc18, hc24, hc29, hc3, hc34, hc53, -List.length_eq_zero_iff]; first | omega | (intros; omega)) | (simp [hc7, hc12, hc18, hc24, hc29, hc3, hc34, hc53, -List.length_eq_zero_iff]; cases m.changes.all rightC <;> simp <;> omega) | (simp [hc7, hc12, hc18, hc24, hc29, hc3, hc34, hc53]; intros; simp_all; done)
 exact fin_ret F (res1 (v := .bool false) F rfl rfl) ⟨by rw [hv], H.mods⟩
theorem encM_calls (w0 : World) {pp : Bool} (hL : LibAt pp w0) {m : MessageD} {okm0 : Nat → Prop} {Am0 : Option Addr} {cm0 : Nat} (hrm0 : Rd (Rep.int .i64) w0 okm0 Am0 m.nodes cm0) {okm1 : Nat → Prop} {Am1 : Option Addr} {cm1 : Nat} (hrm1 : Rd ChgE w0 okm1 Am1 m.changes cm1) (hb : MessageB m) : Calls Tryz.prog 7 #[.agg #[.int .i64 m.kind, .int .i64 m.src, .int .i64 m.dst, .int .i64 m.tx, .slice Am0 m.nodes.length cm0, .slice Am1 m.changes.length cm1]] w0 fun e w' => ∃ v, e = .returned (.tuple #[v, .int .i64 (encME m)]) ∧ Mods (fun _ => False) w0 w' ∧ RowOut (.int .u8) 5 w0 w' v (encM m) := by
 refine cow Tryz.func7 rfl Tryz.ntmps7 (Nat.le_of_ble_eq_true rfl) fun a F => ?_
 have H := Hp.nil (fun _ => False) w0
 have H := H.arg 900 hrm0.all (fun _ h => ⟨h, fun h => h⟩)
 have hlem0 := hrm0.le; unfold maxLen at hlem0
 have H := H.arg 901 hrm1.all (fun _ h => ⟨h, fun h => h⟩)
 have hlem1 := hrm1.le; unfold maxLen at hlem1
 have H := H.libN 990 hL
 refine sr fun _ hK1 => ?_
 refine lp rfl ?_
 refine w_box 1 F H rfl (F.t 0 rfl) ?_
 clear F H; intro a w b1 F H
 refine la F rfl (x_assign rfl) fun a F => ?_
 refine la F rfl (x_assign rfl) fun a F => ?_
 refine wn (hK1 _ _ ?_)
 refine wp_seq_k fun _ hK2 => ?_
 refine sr fun _ hK3 => ?_
 refine la F rfl (x_loadn ty26 (F.t 1 rfl) rfl (blk_whole (H.at 1 rfl))) fun a F => ?_
 refine lp rfl ?_
 refine w_call F (x_enter Tryz.func12 (by kernel_rfl) rfl (by simp only [bM, F.t 15 rfl] <;> rfl)) (rightM_calls _ (H.holds 990 _ rfl) ((H.rd 900 rfl)) ((H.rd 901 rfl)) hb) rfl rfl ?_
 rintro _ w ⟨rfl, hm_⟩; refine ⟨_, rfl, ?_⟩; clear F; intro a F; have H := H.same hm_
 refine la F rfl (x_not (F.t 16 rfl)) fun a F => ?_
 refine wn (hK3 _ _ ?_)
 refine wp_cond_split (F.t 17 rfl) (fun hc17 => ?_) (fun hc17 => ?_)
 ·have hk17_1 := hc17; try simp only [bL] at hc17
  have hz : rightM m = false := by simpa using hc17
  refine sr fun _ hK4 => ?_
  refine la F rfl (x_assign rfl) fun a F => ?_
  refine la F rfl (x_assign rfl) fun a F => ?_
  refine wn (hK4 _ _ ?_)
  refine wp_ret ?_
  try simp only [Exit.then, Exit.inBlock]
  exact fin_ret F (res2 F rfl rfl rfl) ⟨.slice none 0 0, by rw [encME_no hz] <;> rfl, H.mods, by rw [encM_no hz]; exact RowOut.nil _ _ _ _⟩
 have hk17_2 := hc17; try simp only [bL] at hc17
 have hr : rightM m = true := by simpa using hc17
 refine wp_skip ?_
 refine hK2 _ _ ?_
 refine wp_seq_k fun _ hK5 => ?_
 refine r_start [(1, .blk b1 (.cells #[.int .i64 m.kind, .int .i64 m.src, .int .i64 m.dst, .int .i64 m.tx, .slice Am0 m.nodes.length cm0, .slice Am1 m.changes.length cm1] 26 (0, 0)))] (by kernel_rfl) H fun H => ?_
 have hS : SL [(1, .blk b1 (.cells #[.int .i64 m.kind, .int .i64 m.src, .int .i64 m.dst, .int .i64 m.tx, .slice Am0 m.nodes.length cm0, .slice Am1 m.changes.length cm1] 26 (0, 0)))] _ := SL.of H (sub_cons (sub_nil _) 1 rfl)
 refine rT 0 F rfl (by kernel_rfl) pq rfl hS (fun w hS => x_faddr Tryz.underlying26 rfl ty22 (by decide) (F.t 1 rfl) rfl) rfl fun a F => ?_
 refine rT 1 F rfl (by kernel_rfl) pq rfl hS (fun w hS => x_load1 ty22 (F.t 18 rfl) (blk_cell (SL.at_ hS 1 rfl) 0 rfl)) rfl fun a F => ?_
 refine rT 2 F rfl (by kernel_rfl) pq rfl hS (fun w hS => x_conv Tryz.underlying5 ⟨_, Tryz.underlying22⟩ (F.t 19 rfl) (wu8 (by have := (rightM_parts hr).kind; omega) (by have := (rightM_parts hr).kind; omega))) rfl fun a F => ?_
 refine rT 3 F rfl (by kernel_rfl) pq rfl hS (fun w hS => x_faddr Tryz.underlying26 rfl ty3 (by decide) (F.t 1 rfl) rfl) rfl fun a F => ?_
 refine rT 4 F rfl (by kernel_rfl) pq rfl hS (fun w hS => x_load1 ty3 (F.t 21 rfl) (blk_cell (SL.at_ hS 1 rfl) 1 rfl)) rfl fun a F => ?_
 refine rT 5 F rfl (by kernel_rfl) pq rfl hS (fun w hS => x_conv Tryz.underlying5 ⟨_, Tryz.underlying3⟩ (F.t 22 rfl) (wu8 (by have := (rightM_parts hr).src; omega) (by have := (rightM_parts hr).src; omega))) rfl fun a F => ?_
 refine rT 6 F rfl (by kernel_rfl) pq rfl hS (fun w hS => x_faddr Tryz.underlying26 rfl ty3 (by decide) (F.t 1 rfl) rfl) rfl fun a F => ?_
 refine rT 7 F rfl (by kernel_rfl) pq rfl hS (fun w hS => x_load1 ty3 (F.t 24 rfl) (blk_cell (SL.at_ hS 1 rfl) 2 rfl)) rfl fun a F => ?_
 refine rT 8 F rfl (by kernel_rfl) pq rfl hS (fun w hS => x_conv Tryz.underlying5 ⟨_, Tryz.underlying3⟩ (F.t 25 rfl) (wu8 (by have := (rightM_parts hr).dst; omega) (by have := (rightM_parts hr).dst; omega))) rfl fun a F => ?_
 refine rT 11 F rfl (by kernel_rfl) pq rfl hS (fun w hS => x_faddr Tryz.underlying26 rfl ty3 (by decide) (F.t 1 rfl) rfl) rfl fun a F => ?_
 refine rT 12 F rfl (by kernel_rfl) pq rfl hS (fun w hS => x_load1 ty3 (F.t 29 rfl) (blk_cell (SL.at_ hS 1 rfl) 3 rfl)) rfl fun a F => ?_
 refine rT 13 F rfl (by kernel_rfl) pq rfl hS (fun w hS => x_conv Tryz.underlying59 ⟨_, Tryz.underlying3⟩ (F.t 30 rfl) (wu64 (by have := (rightM_parts hr).tx; omega) (by have := (rightM_parts hr).tx; omega))) rfl fun a F => ?_
 refine r_do2 9 14 rfl rfl (by kernel_rfl) rfl rfl rfl rfl ?_ ?_
 ·
  refine w_lit 27 (enc := Value.int .u8) (h1 := fun _ => rfl) ([m.kind, m.src, m.dst]) F H rfl Tryz.underlying27 ty5 (by simp only [bM, F.t 20 rfl, F.t 23 rfl, F.t 26 rfl]; rfl) rfl (by decide) (by decide) (by kernel_rfl) ?_
  clear F H; intro a w b27 F H
  refine aN (SL.of H (sub_cons (sub_nil _) 1 rfl)) fun hS => ?_
  have H := H.freeze 27 rfl (fun kb => (Value.slice (some ⟨b27, 0, none⟩) ([m.kind, m.src, m.dst]).length ([m.kind, m.src, m.dst]).length).ownBlock = some kb) (fun kb => ⟨fun h => .inr h, fun h => h.resolve_left id⟩)
  refine rT 10 F rfl (by kernel_rfl) pq rfl hS (fun w hS => x_buildS (cells := #[.int .i64 1, .slice (some ⟨b27, 0, none⟩) ([m.kind, m.src, m.dst]).length ([m.kind, m.src, m.dst]).length]) (places := #[(0, 1), (1, 1)]) Tryz.underlying57 ty57 (by kernel_rfl) (by simp only [bM, F.t 27 rfl] <;> rfl) rfl) rfl fun a F => ?_
  refine r_do 14 rfl (by kernel_rfl) rfl rfl ?_
  refine w_call F (x_enter Tryz.func28 (by kernel_rfl) rfl (by simp only [bM, F.t 31 rfl] <;> rfl)) (bI_calls _ (by have := (rightM_parts hr).tx; exact ⟨by omega, by omega⟩)) rfl rfl ?_
  rintro _ w ⟨vr32, rfl, hm_, hr_⟩; refine ⟨_, rfl, ?_⟩; clear F; intro a F; have H := Hp.rowOut H 32 hm_ hr_; obtain ⟨Ar32, cr32, rfl⟩ := (H.row 32 rfl).form
  refine aN (SL.of H (sub_cons (sub_nil _) 1 rfl)) fun hS => ?_
  have H := H.freeze 32 rfl (fun kb => (Value.slice Ar32 (bI m.tx).length cr32).ownBlock = some kb) (fun kb => ⟨fun h => .inr h, fun h => h.resolve_left id⟩)
  refine rT 15 F rfl (by kernel_rfl) pq rfl hS (fun w hS => x_buildS (cells := #[.int .i64 2, .slice Ar32 (bI m.tx).length cr32]) (places := #[(0, 1), (1, 1)]) Tryz.underlying57 ty57 (by kernel_rfl) (by simp only [bM, F.t 32 rfl] <;> rfl) rfl) rfl fun a F => ?_
  refine r_do 16 rfl (by kernel_rfl) rfl rfl ?_
  refine w_litE 4 FE ([((1, [m.kind, m.src, m.dst]) : Fld), ((2, bI m.tx) : Fld)]) #[.int .i64 1, .slice (some ⟨b27, 0, none⟩) ([m.kind, m.src, m.dst]).length ([m.kind, m.src, m.dst]).length, .int .i64 2, .slice Ar32 (bI m.tx).length cr32] (fun kb => (fun kb => (Value.slice (some ⟨b27, 0, none⟩) ([m.kind, m.src, m.dst]).length ([m.kind, m.src, m.dst]).length).ownBlock = some kb) kb ∨ (fun kb => (Value.slice Ar32 (bI m.tx).length cr32).ownBlock = some kb) kb) F H rfl Tryz.underlying60 ty57 (by simp only [bM, F.t 28 rfl, F.t 33 rfl] <;> rfl) rfl (by decide) (by decide) (by kernel_rfl) ((Elems.single (fld_mk (f := ((1, [m.kind, m.src, m.dst]) : Fld)) (((H.rd 27 rfl)).move (fun _ _ _ => rfl) (fun k h _ => .inl h)))).append (Elems.single (fld_mk (f := ((2, bI m.tx) : Fld)) (((H.rd 32 rfl)).move (fun _ _ _ => rfl) (fun k h _ => .inr h))))) (fun kb hk => hk.elim (fun h => ⟨27, _, rfl, h⟩) (fun h => ⟨32, _, rfl, h⟩)) ?_
  clear F H; intro a w b34 F H
  refine aN (SL.of H (sub_cons (sub_nil _) 1 rfl)) fun hS => ?_
  refine rT 17 F rfl (by kernel_rfl) pq rfl hS (fun w hS => x_assign (F.t 34 rfl)) rfl fun a F => ?_
  refine r_end (by kernel_rfl) ?_; clear hS
  refine hK5 _ _ ?_
  refine wp_seq_k fun _ hK6 => ?_
  refine sr fun _ hK7 => ?_
  refine la F rfl (x_faddr Tryz.underlying26 rfl ty22 (by decide) (F.t 1 rfl) rfl) fun a F => ?_
  refine la F rfl (x_load1 ty22 (F.t 35 rfl) (blk_cell (H.at 1 rfl) 0 rfl)) fun a F => ?_
  refine la F rfl (x_eql (F.t 36 rfl) rfl) fun a F => ?_
  refine wn (hK7 _ _ ?_)
  refine wp_cond_split (F.t 37 rfl) (fun hc37 => ?_) (fun hc37 => ?_)
  ·have hk37_3 := hc37; try simp only [bL] at hc37
   have hnl := nodes_len ((rightM_parts hr).prep hc37).2.1 (by omega) (by omega)
   have hcl := ((rightM_parts hr).prep hc37).2.2.1
   refine sr fun _ hK8 => ?_
   refine la F rfl (x_buildS (cells := #[.int .i64 3, .slice none 0 0]) (places := #[(0, 1), (1, 1)]) Tryz.underlying57 ty57 (by kernel_rfl) (by simp only [bM] <;> rfl) rfl) fun a F => ?_
   refine lp rfl ?_
   refine w_alloc 5 F H rfl ty57 ?_
   clear F H; intro a w b5 F H
   refine lp rfl ?_
   refine w_storeA 5 H ty57 rfl (F.t 5 rfl) (F.t 38 rfl) rfl (by simp [Value.cells, Value.oneCell']) rfl ?_
   clear H; intro w H
   have H := H.row0 50 (.int .u8) 5
   refine wn (hK8 _ _ ?_)
   refine wp_seq_k fun _ hK9 => ?_
   refine sr fun _ hK10 => ?_
   refine la F rfl (x_faddr Tryz.underlying26 rfl ty23 (by decide) (F.t 1 rfl) rfl) fun a F => ?_
   refine la F rfl (x_load1 ty23 (F.t 39 rfl) (blk_cell (H.at 1 rfl) 4 rfl)) fun a F => ?_
   refine la F rfl (x_len_slice Tryz.underlying23 (F.t 40 rfl)) fun a F => ?_
   refine la F rfl (x_move rfl) fun a F => ?_
   refine wn (hK10 _ _ ?_)
   refine wp_block ?_
   refine wp_loop_ghost (fun n_ a w => ∃ k : Nat, ∃ Ad : Option Addr, ∃ cd : Nat, n_ = m.nodes.length - k ∧ (k ≤ m.nodes.length) ∧ Fr 98 a [(1, .pointer (some ⟨b1, 0, none⟩)), (4, .slice (some ⟨b34, 0, none⟩) ([((1, [m.kind, m.src, m.dst]) : Fld), ((2, bI m.tx) : Fld)]).length ([((1, [m.kind, m.src, m.dst]) : Fld), ((2, bI m.tx) : Fld)]).length), (5, .pointer (some ⟨b5, 0, none⟩)), (40, .slice Am0 m.nodes.length cm0), (41, .int .i64 (m.nodes.length : Int)), (42, .int .i64 (k : Int))] ∧ Hp (fun _ => False) w0 w [(900, .rd_ (.int .i64) Am0 m.nodes cm0 (fun k => k < w0.heap.size)), (901, .rd_ ChgE Am1 m.changes cm1 (fun k => k < w0.heap.size)), (990, .lib pp), (1, .blk b1 (.cells #[.int .i64 m.kind, .int .i64 m.src, .int .i64 m.dst, .int .i64 m.tx, .slice Am0 m.nodes.length cm0, .slice Am1 m.changes.length cm1] 26 (0, 0))), (27, .rd_ (.int .u8) (some ⟨b27, 0, none⟩) ([m.kind, m.src, m.dst]) ([m.kind, m.src, m.dst]).length (fun kb => (Value.slice (some ⟨b27, 0, none⟩) ([m.kind, m.src, m.dst]).length ([m.kind, m.src, m.dst]).length).ownBlock = some kb)), (32, .rd_ (.int .u8) Ar32 (bI m.tx) cr32 (fun kb => (Value.slice Ar32 (bI m.tx).length cr32).ownBlock = some kb)), (4, .row FE 57 (.slice (some ⟨b34, 0, none⟩) ([((1, [m.kind, m.src, m.dst]) : Fld), ((2, bI m.tx) : Fld)]).length ([((1, [m.kind, m.src, m.dst]) : Fld), ((2, bI m.tx) : Fld)]).length) ([((1, [m.kind, m.src, m.dst]) : Fld), ((2, bI m.tx) : Fld)]) (fun kb => (fun kb => (Value.slice (some ⟨b27, 0, none⟩) ([m.kind, m.src, m.dst]).length ([m.kind, m.src, m.dst]).length).ownBlock = some kb) kb ∨ (fun kb => (Value.slice Ar32 (bI m.tx).length cr32).ownBlock = some kb) kb)), (5, .blk b5 (.cells #[.int .i64 3, .slice Ad (m.nodes.take k).length cd] 57 (0, 0))), (50, .row (.int .u8) 5 (.slice Ad (m.nodes.take k).length cd) (m.nodes.take k) (fun _ => False))]) (m.nodes.length) ?_ ?_
   ·exact ⟨0, none, 0, rfl, by omega, ((((((F.bare.add F 42 rfl).add F 41 rfl).add F 40 rfl).add F 5 rfl).add F 4 rfl).add F 1 rfl), H.sub _ (sub_cons (sub_cons (sub_cons (sub_cons (sub_cons (sub_cons (sub_cons (sub_cons (sub_cons (sub_nil _) 50 rfl) 5 rfl) 4 rfl) 32 rfl) 27 rfl) 1 rfl) 990 rfl) 901 rfl) 900 rfl)⟩
   rintro _ a w ⟨k, Ad, cd, rfl, hq0_0, F, H⟩
   refine sr fun _ hK11 => ?_
   refine la F rfl (x_lss (F.t 42 rfl) (F.t 41 rfl)) fun a F => ?_
   refine wn (hK11 _ _ ?_)
   refine wp_seq_k fun _ hK12 => ?_
   refine wp_cond_split (F.t 43 rfl) (fun hc43 => ?_) (fun hc43 => ?_)
   ·have hk43_4 := hc43; try simp only [bL] at hc43
    refine wp_skip ?_
    refine hK12 _ _ ?_
    refine wp_seq_k fun _ hK13 => ?_
    refine wp_block ?_
    refine sr fun _ hK14 => ?_
    have hmem : (gi m.nodes (k : Int)) ∈ m.nodes := List.mem_of_getElem? (gi_some (xs := m.nodes) (i := (k : Int)) (by omega) (by omega))
    refine la F rfl (x_iaddr_A Tryz.underlying23 ty3 ((H.rd 900 rfl)) (F.t 40 rfl) (F.t 42 rfl) (by omega) (by omega) _) fun a F => ?_
    refine la F rfl (x_load1 ty3 (F.t 44 rfl) (((H.rd 900 rfl)).cellA (gi_some (i := (k : Int)) (by omega) (by omega)))) fun a F => ?_
    refine la F rfl (x_assign (F.t 45 rfl)) fun a F => ?_
    refine wn (hK14 _ _ ?_)
    refine wp_region_lit ?_
    refine la F rfl (x_faddr Tryz.underlying57 rfl ty27 (by decide) (F.t 5 rfl) rfl) fun a F => ?_
    refine la F rfl (x_load1 ty27 (F.t 46 rfl) (blk_cell (H.at 5 rfl) 1 rfl)) fun a F => ?_
    refine la F rfl (x_move (F.t 7 rfl)) fun a F => ?_
    refine la F rfl (x_conv Tryz.underlying5 ⟨_, Tryz.underlying3⟩ (F.t 48 rfl) (wu8 (by have := nodes_in ((rightM_parts hr).prep hc37).2.1 _ hmem; omega) (by have := nodes_in ((rightM_parts hr).prep hc37).2.1 _ hmem; omega))) fun a F => ?_
    refine lp rfl ?_
    refine w_lit 950 (enc := Value.int .u8) (h1 := fun _ => rfl) ([(gi m.nodes (k : Int))]) F H rfl Tryz.underlying27 ty5 (by simp only [bM, F.t 49 rfl]; rfl) rfl (by decide) (by decide) (by kernel_rfl) ?_
    clear F H; intro a w b50 F H
    refine lp rfl ?_
    refine w_append 50 950 (xs := (m.nodes.take k)) (ys := ([(gi m.nodes (k : Int))])) F H rfl Tryz.underlying27 ty5 rfl rfl rfl rfl (Row.rd (ok' := fun k_ => (fun _ => False) k_ ∨ (.slice (some ⟨b50, 0, none⟩) ([(gi m.nodes (k : Int))]).length ([(gi m.nodes (k : Int))]).length : Value).ownBlock = some k_) (H.row 950 rfl) (fun _ hk_ _ => .inl hk_) (fun _ hk_ => .inr hk_)) (by rintro k_ (hk_ | hk_); exact .inr hk_; exact .inl hk_) (F.t 47 rfl) (F.t 50 rfl) (by simp only [lN]; omega) (by simp only [lN, maxLen]; omega) (fun _ => False) (fun w' v' h => row_flat h _) (fun k_ hk_ => hk_.elim) ?_
    clear F H; intro a w v51 F H
    obtain ⟨A51, c51, rfl⟩ := (H.row 50 rfl).form
    refine la F rfl (x_faddr Tryz.underlying57 rfl ty27 (by decide) (F.t 5 rfl) rfl) fun a F => ?_
    refine lp rfl ?_
    refine w_store 5 H ty27 rfl (F.t 52 rfl) (F.t 51 rfl) rfl (one1 rfl rfl) (by first | decide | exact Nat.le_of_ble_eq_true rfl) ?_
    clear H; intro w H
    refine wn (hK13 _ _ ?_)
    refine wp_region_lit ?_
    refine la F rfl (x_add (F.t 42 rfl) rfl (w64 (by omega) (by omega))) fun a F => ?_
    refine la F rfl (x_move (F.t 53 rfl)) fun a F => ?_
    refine wpList_nil ?_
    have hHs : Hp (fun _ => False) w0 w [(900, .rd_ (.int .i64) Am0 m.nodes cm0 (fun k => k < w0.heap.size)), (901, .rd_ ChgE Am1 m.changes cm1 (fun k => k < w0.heap.size)), (990, .lib pp), (1, .blk b1 (.cells #[.int .i64 m.kind, .int .i64 m.src, .int .i64 m.dst, .int .i64 m.tx, .slice Am0 m.nodes.length cm0, .slice Am1 m.changes.length cm1] 26 (0, 0))), (27, .rd_ (.int .u8) (some ⟨b27, 0, none⟩) ([m.kind, m.src, m.dst]) ([m.kind, m.src, m.dst]).length (fun kb => (Value.slice (some ⟨b27, 0, none⟩) ([m.kind, m.src, m.dst]).length ([m.kind, m.src, m.dst]).length).ownBlock = some kb)), (32, .rd_ (.int .u8) Ar32 (bI m.tx) cr32 (fun kb => (Value.slice Ar32 (bI m.tx).length cr32).ownBlock = some kb)), (4, .row FE 57 (.slice (some ⟨b34, 0, none⟩) ([((1, [m.kind, m.src, m.dst]) : Fld), ((2, bI m.tx) : Fld)]).length ([((1, [m.kind, m.src, m.dst]) : Fld), ((2, bI m.tx) : Fld)]).length) ([((1, [m.kind, m.src, m.dst]) : Fld), ((2, bI m.tx) : Fld)]) (fun kb => (fun kb => (Value.slice (some ⟨b27, 0, none⟩) ([m.kind, m.src, m.dst]).length ([m.kind, m.src, m.dst]).length).ownBlock = some kb) kb ∨ (fun kb => (Value.slice Ar32 (bI m.tx).length cr32).ownBlock = some kb) kb)), (5, .blk b5 (.cells #[.int .i64 3, .slice A51 (m.nodes.take k ++ [(gi m.nodes (k : Int))]).length c51] 57 (0, 0))), (50, .row (.int .u8) 5 (.slice A51 (m.nodes.take k ++ [(gi m.nodes (k : Int))]).length c51) (m.nodes.take k ++ [(gi m.nodes (k : Int))]) (fun _ => False))] := H.sub _ (sub_cons (sub_cons (sub_cons (sub_cons (sub_cons (sub_cons (sub_cons (sub_cons (sub_cons (sub_nil _) 50 rfl) 5 rfl) 4 rfl) 32 rfl) 27 rfl) 1 rfl) 990 rfl) 901 rfl) 900 rfl)
    rw [← gi_step hc43] at hHs
    exact ⟨_, by omega, ⟨k + 1, A51, c51, rfl, by omega, ((((((F.bare.add F 42 rfl).add F 41 rfl).add F 40 rfl).add F 5 rfl).add F 4 rfl).add F 1 rfl), hHs⟩⟩
   have hk43_5 := hc43; try simp only [bL] at hc43
   refine wp_exit ?_
   refine hK9 _ _ ?_
   refine sr fun _ hK15 => ?_
   obtain rfl : k = m.nodes.length := by omega
   rw [List.take_length] at H
   have H := H.freeze 50 rfl (fun kb => (Value.slice Ad m.nodes.length cd).ownBlock = some kb) (fun kb => ⟨fun h => .inr h, fun h => h.resolve_left id⟩)
   refine la F rfl (x_move (F.t 4 rfl)) fun a F => ?_
   refine la F rfl (x_loadn ty57 (F.t 5 rfl) rfl (blk_whole (H.at 5 rfl))) fun a F => ?_
   refine lp rfl ?_
   refine w_lit1 56 FE ((3, m.nodes) : Fld) #[.int .i64 3, .slice Ad m.nodes.length cd] (fun kb => (Value.slice Ad m.nodes.length cd).ownBlock = some kb) F H rfl Tryz.underlying60 ty57 (by simp only [bM, F.t 55 rfl] <;> rfl) (by decide) (by kernel_rfl) (fld_mk (f := ((3, m.nodes) : Fld)) ((H.rd 50 rfl))) (fun kb hk => ⟨50, _, rfl, hk⟩) ?_
   clear F H; intro a w b56 F hb56_ H
   refine lp rfl ?_
   refine w_append 4 56 (xs := ([((1, [m.kind, m.src, m.dst]) : Fld), ((2, bI m.tx) : Fld)])) (ys := ([((3, m.nodes) : Fld)])) F H rfl Tryz.underlying60 ty57 rfl rfl rfl rfl ((H.rd 56 rfl)) oI (F.t 54 rfl) (F.t 56 rfl) (by simp only [lN] at *; omega) (by simp only [lN, maxLen] at *; omega) (fun kb => (fun kb => (fun kb => (Value.slice (some ⟨b27, 0, none⟩) ([m.kind, m.src, m.dst]).length ([m.kind, m.src, m.dst]).length).ownBlock = some kb) kb ∨ (fun kb => (Value.slice Ar32 (bI m.tx).length cr32).ownBlock = some kb) kb) kb ∨ (fun kb => (fun kb => (Value.slice Ad m.nodes.length cd).ownBlock = some kb) kb ∨ kb = b56) kb) (fun w' v' h => h) (by rintro k_ (hk_ | hk_); exact .inl hk_; exact .inr hk_) ?_
   clear F H; intro a w v57 F H
   refine la F rfl (x_assign (F.t 57 rfl)) fun a F => ?_
   refine wn (hK15 _ _ ?_)
   refine sr fun _ hK16 => ?_
   refine la F rfl (x_faddr Tryz.underlying26 rfl ty24 (by decide) (F.t 1 rfl) rfl) fun a F => ?_
   refine la F rfl (x_load1 ty24 (F.t 58 rfl) (blk_cell (H.at 1 rfl) 5 rfl)) fun a F => ?_
   refine la F rfl (x_len_slice Tryz.underlying24 (F.t 59 rfl)) fun a F => ?_
   refine la F rfl (x_move rfl) fun a F => ?_
   refine wn (hK16 _ _ ?_)
   refine wp_block ?_
   refine wp_loop_ghost (fun n_ a w => ∃ k : Nat, ∃ v4 : Value, ∃ okv : Nat → Prop, n_ = m.changes.length - k ∧ (k ≤ m.changes.length) ∧ Fr 98 a [(4, v4), (59, .slice Am1 m.changes.length cm1), (60, .int .i64 (m.changes.length : Int)), (61, .int .i64 (k : Int))] ∧ Hp (fun _ => False) w0 w [(900, .rd_ (.int .i64) Am0 m.nodes cm0 (fun k => k < w0.heap.size)), (901, .rd_ ChgE Am1 m.changes cm1 (fun k => k < w0.heap.size)), (990, .lib pp), (1, .blk b1 (.cells #[.int .i64 m.kind, .int .i64 m.src, .int .i64 m.dst, .int .i64 m.tx, .slice Am0 m.nodes.length cm0, .slice Am1 m.changes.length cm1] 26 (0, 0))), (27, .rd_ (.int .u8) (some ⟨b27, 0, none⟩) ([m.kind, m.src, m.dst]) ([m.kind, m.src, m.dst]).length (fun kb => (Value.slice (some ⟨b27, 0, none⟩) ([m.kind, m.src, m.dst]).length ([m.kind, m.src, m.dst]).length).ownBlock = some kb)), (32, .rd_ (.int .u8) Ar32 (bI m.tx) cr32 (fun kb => (Value.slice Ar32 (bI m.tx).length cr32).ownBlock = some kb)), (4, .row FE 57 v4 (([((1, [m.kind, m.src, m.dst]) : Fld), ((2, bI m.tx) : Fld)] ++ [((3, m.nodes) : Fld)]) ++ (m.changes.take k).map (fun c => ((4, encC c) : Fld))) okv), (5, .blk b5 (.cells #[.int .i64 3, .slice Ad m.nodes.length cd] 57 (0, 0))), (50, .rd_ (.int .u8) Ad m.nodes cd (fun kb => (Value.slice Ad m.nodes.length cd).ownBlock = some kb)), (56, .rd_ FE (some ⟨b56, 0, none⟩) [((3, m.nodes) : Fld)] 1 (fun kb => (fun kb => (Value.slice Ad m.nodes.length cd).ownBlock = some kb) kb ∨ kb = b56))]) (m.changes.length) ?_ ?_
   ·exact ⟨0, v57, (fun kb => (fun kb => (fun kb => (Value.slice (some ⟨b27, 0, none⟩) ([m.kind, m.src, m.dst]).length ([m.kind, m.src, m.dst]).length).ownBlock = some kb) kb ∨ (fun kb => (Value.slice Ar32 (bI m.tx).length cr32).ownBlock = some kb) kb) kb ∨ (fun kb => (fun kb => (Value.slice Ad m.nodes.length cd).ownBlock = some kb) kb ∨ kb = b56) kb), rfl, by omega, ((((F.bare.add F 61 rfl).add F 60 rfl).add F 59 rfl).add F 4 rfl), H.sub _ (sub_cons (sub_cons (sub_cons (sub_cons (sub_cons (sub_cons (sub_cons (sub_cons (sub_cons (sub_cons (sub_nil _) 56 rfl) 50 rfl) 5 rfl) 4 rfl) 32 rfl) 27 rfl) 1 rfl) 990 rfl) 901 rfl) 900 rfl)⟩
   rintro _ a w ⟨k, v4, okv, rfl, hq2_0, F, H⟩
   refine sr fun _ hK17 => ?_
   refine la F rfl (x_lss (F.t 61 rfl) (F.t 60 rfl)) fun a F => ?_
   refine wn (hK17 _ _ ?_)
   refine wp_seq_k fun _ hK18 => ?_
   refine wp_cond_split (F.t 62 rfl) (fun hc62 => ?_) (fun hc62 => ?_)
   ·have hk62_6 := hc62; try simp only [bL] at hc62
    refine wp_skip ?_
    refine hK18 _ _ ?_
    refine wp_seq_k fun _ hK19 => ?_
    refine wp_block ?_
    refine sr fun _ hK20 => ?_
    obtain ⟨fA1, fc1, hfr1, hf1_0, hf1_1, hf1_2, hf1_3, hf1_4, hf1_5, hf1_6, hf1_7, hfw1⟩ := rd_chg ((H.rd 901 rfl)) (gchg_some (xs := m.changes) (i := (k : Int)) (by omega) (by omega))
    have H := H.subrd 901 rfl 1007 hfr1 (fun _ h => h)
    have H := H.subcels 901 rfl 1499 hfw1 (Rd.inok ((H.rd 901 rfl)) (by omega) _)
    have H := H.subcel 901 rfl 1500 hf1_0 (Rd.inok ((H.rd 901 rfl)) (by omega) _)
    have H := H.subcel 901 rfl 1501 hf1_1 (Rd.inok ((H.rd 901 rfl)) (by omega) _)
    have H := H.subcel 901 rfl 1502 hf1_2 (Rd.inok ((H.rd 901 rfl)) (by omega) _)
    have H := H.subcel 901 rfl 1503 hf1_3 (Rd.inok ((H.rd 901 rfl)) (by omega) _)
    have H := H.subcel 901 rfl 1504 hf1_4 (Rd.inok ((H.rd 901 rfl)) (by omega) _)
    have H := H.subcel 901 rfl 1505 hf1_5 (Rd.inok ((H.rd 901 rfl)) (by omega) _)
    have H := H.subcel 901 rfl 1506 hf1_6 (Rd.inok ((H.rd 901 rfl)) (by omega) _)
    have H := H.subcel 901 rfl 1507 hf1_7 (Rd.inok ((H.rd 901 rfl)) (by omega) _)
    refine la F rfl (x_iaddr_A Tryz.underlying24 ty66 ((H.rd 901 rfl)) (F.t 59 rfl) (F.t 61 rfl) (by omega) (by omega) _) fun a F => ?_
    refine la F rfl (x_loadn ty66 (F.t 63 rfl) rfl (H.holds 1499 _ rfl)) fun a F => ?_
    refine lp rfl ?_
    refine w_alloc 9 F H rfl ty66 ?_
    clear F H; intro a w b9 F H
    refine lp rfl ?_
    refine w_storeA 9 H ty66 rfl (F.t 9 rfl) (F.t 64 rfl) rfl (by simp [Value.cells, Value.oneCell']) rfl ?_
    clear H; intro w H
    refine wn (hK20 _ _ ?_)
    refine sr fun _ hK21 => ?_
    refine la F rfl (x_loadn ty66 (F.t 9 rfl) rfl (blk_whole (H.at 9 rfl))) fun a F => ?_
    refine lp rfl ?_
    refine w_call F (x_enter Tryz.func29 (by kernel_rfl) rfl (by simp only [bM, F.t 66 rfl] <;> rfl)) (encC_calls _ (H.holds 990 _ rfl) ((H.rd 1007 rfl)) (hb.changes _ (gchg_mem (xs := m.changes) (j := k) (by omega)))) rfl rfl ?_
    rintro _ w ⟨vr67, rfl, hm_, hr_⟩; refine ⟨_, rfl, ?_⟩; clear F; intro a F; have H := Hp.rowOut H 67 hm_ hr_; obtain ⟨Ar67, cr67, rfl⟩ := (H.row 67 rfl).form
    refine la F rfl (x_move (F.t 67 rfl)) fun a F => ?_
    refine la F rfl (x_extract (F.t 65 rfl) rfl) fun a F => ?_
    refine la F rfl (x_extract (F.t 65 rfl) rfl) fun a F => ?_
    refine la F rfl (x_assign (F.t 68 rfl)) fun a F => ?_
    refine la F rfl (x_assign (F.t 69 rfl)) fun a F => ?_
    refine wn (hK21 _ _ ?_)
    refine wp_region_lit ?_
    have H := H.freeze 67 rfl (fun kb => (Value.slice Ar67 (encC (gchg m.changes (k : Int))).length cr67).ownBlock = some kb) (fun kb => ⟨fun h => .inr h, fun h => h.resolve_left id⟩)
    refine la F rfl (x_move (F.t 4 rfl)) fun a F => ?_
    refine la F rfl (x_move (F.t 10 rfl)) fun a F => ?_
    refine la F rfl (x_buildS (cells := #[.int .i64 4, .slice Ar67 (encC (gchg m.changes (k : Int))).length cr67]) (places := #[(0, 1), (1, 1)]) Tryz.underlying57 ty57 (by kernel_rfl) (by simp only [bM, F.t 71 rfl] <;> rfl) rfl) fun a F => ?_
    refine lp rfl ?_
    refine w_lit1 73 FE ((4, (encC (gchg m.changes (k : Int)))) : Fld) #[.int .i64 4, .slice Ar67 (encC (gchg m.changes (k : Int))).length cr67] (fun kb => (Value.slice Ar67 (encC (gchg m.changes (k : Int))).length cr67).ownBlock = some kb) F H rfl Tryz.underlying60 ty57 (by simp only [bM, F.t 72 rfl] <;> rfl) (by decide) (by kernel_rfl) (fld_mk (f := ((4, (encC (gchg m.changes (k : Int)))) : Fld)) ((H.rd 67 rfl))) (fun kb hk => ⟨67, _, rfl, hk⟩) ?_
    clear F H; intro a w b73 F hb73_ H
    refine lp rfl ?_
    refine w_append 4 73 (xs := (([((1, [m.kind, m.src, m.dst]) : Fld), ((2, bI m.tx) : Fld)] ++ [((3, m.nodes) : Fld)]) ++ (m.changes.take k).map (fun c => ((4, encC c) : Fld)))) (ys := ([((4, (encC (gchg m.changes (k : Int)))) : Fld)])) F H rfl Tryz.underlying60 ty57 rfl rfl rfl rfl ((H.rd 73 rfl)) oI (F.t 70 rfl) (F.t 73 rfl) (by simp only [lN] at *; omega) (by simp only [lN, maxLen] at *; omega) (fun kb => okv kb ∨ (fun kb => (fun kb => (Value.slice Ar67 (encC (gchg m.changes (k : Int))).length cr67).ownBlock = some kb) kb ∨ kb = b73) kb) (fun w' v' h => h) (by rintro k_ (hk_ | hk_); exact .inl hk_; exact .inr hk_) ?_
    clear F H; intro a w v74 F H
    refine la F rfl (x_assign (F.t 74 rfl)) fun a F => ?_
    refine wn (hK19 _ _ ?_)
    refine wp_region_lit ?_
    refine la F rfl (x_add (F.t 61 rfl) rfl (w64 (by omega) (by omega))) fun a F => ?_
    refine la F rfl (x_move (F.t 75 rfl)) fun a F => ?_
    refine wpList_nil ?_
    have hHs : Hp (fun _ => False) w0 w [(900, .rd_ (.int .i64) Am0 m.nodes cm0 (fun k => k < w0.heap.size)), (901, .rd_ ChgE Am1 m.changes cm1 (fun k => k < w0.heap.size)), (990, .lib pp), (1, .blk b1 (.cells #[.int .i64 m.kind, .int .i64 m.src, .int .i64 m.dst, .int .i64 m.tx, .slice Am0 m.nodes.length cm0, .slice Am1 m.changes.length cm1] 26 (0, 0))), (27, .rd_ (.int .u8) (some ⟨b27, 0, none⟩) ([m.kind, m.src, m.dst]) ([m.kind, m.src, m.dst]).length (fun kb => (Value.slice (some ⟨b27, 0, none⟩) ([m.kind, m.src, m.dst]).length ([m.kind, m.src, m.dst]).length).ownBlock = some kb)), (32, .rd_ (.int .u8) Ar32 (bI m.tx) cr32 (fun kb => (Value.slice Ar32 (bI m.tx).length cr32).ownBlock = some kb)), (4, .row FE 57 v74 ((([((1, [m.kind, m.src, m.dst]) : Fld), ((2, bI m.tx) : Fld)] ++ [((3, m.nodes) : Fld)]) ++ (m.changes.take k).map (fun c => ((4, encC c) : Fld))) ++ [((4, encC (gchg m.changes (k : Int))) : Fld)]) (fun kb => okv kb ∨ (fun kb => (fun kb => (Value.slice Ar67 (encC (gchg m.changes (k : Int))).length cr67).ownBlock = some kb) kb ∨ kb = b73) kb)), (5, .blk b5 (.cells #[.int .i64 3, .slice Ad m.nodes.length cd] 57 (0, 0))), (50, .rd_ (.int .u8) Ad m.nodes cd (fun kb => (Value.slice Ad m.nodes.length cd).ownBlock = some kb)), (56, .rd_ FE (some ⟨b56, 0, none⟩) [((3, m.nodes) : Fld)] 1 (fun kb => (fun kb => (Value.slice Ad m.nodes.length cd).ownBlock = some kb) kb ∨ kb = b56))] := H.sub _ (sub_cons (sub_cons (sub_cons (sub_cons (sub_cons (sub_cons (sub_cons (sub_cons (sub_cons (sub_cons (sub_nil _) 56 rfl) 50 rfl) 5 rfl) 4 rfl) 32 rfl) 27 rfl) 1 rfl) 990 rfl) 901 rfl) 900 rfl)
    rw [chg_stepL hc62] at hHs
    exact ⟨_, by omega, ⟨k + 1, v74, (fun kb => okv kb ∨ (fun kb => (fun kb => (Value.slice Ar67 (encC (gchg m.changes (k : Int))).length cr67).ownBlock = some kb) kb ∨ kb = b73) kb), rfl, by omega, ((((F.bare.add F 61 rfl).add F 60 rfl).add F 59 rfl).add F 4 rfl), hHs⟩⟩
   have hk62_7 := hc62; try simp only [bL] at hc62
   refine wp_exit ?_
   refine hK6 _ _ ?_
   refine sr fun _ hK22 => ?_
   obtain rfl : k = m.changes.length := by omega
   rw [List.take_length] at H
   rw [msgF_1 hc37] at H
   obtain ⟨Av, cv, rfl⟩ := (H.row 4 rfl).form
   refine la F rfl (x_move (F.t 4 rfl)) fun a F => ?_
   refine lp rfl ?_
   refine w_call F (x_enter Tryz.func30 (by kernel_rfl) rfl (by simp only [bM, F.t 77 rfl] <;> rfl)) (enc_at (Row.rd (ok' := fun k_ => okv k_ ∨ (.slice Av (msgF m).length cv : Value).ownBlock = some k_) (H.row 4 rfl) (fun _ hk_ _ => .inl hk_) (fun _ hk_ => .inr hk_)) (msg_encR hr hb)) rfl rfl ?_
   rintro _ w ⟨vr78, rfl, hm_, hr_⟩; refine ⟨_, rfl, ?_⟩; clear F; intro a F; have H := Hp.rowOut H 78 hm_ hr_; obtain ⟨Ar78, cr78, rfl⟩ := (H.row 78 rfl).form
   refine la F rfl (x_move (F.t 78 rfl)) fun a F => ?_
   refine la F rfl (x_extract (F.t 76 rfl) rfl) fun a F => ?_
   refine la F rfl (x_extract (F.t 76 rfl) rfl) fun a F => ?_
   refine la F rfl (x_assign (F.t 79 rfl)) fun a F => ?_
   refine la F rfl (x_assign (F.t 80 rfl)) fun a F => ?_
   refine wn (hK22 _ _ ?_)
   refine sr fun _ hK23 => ?_
   refine la F rfl (x_move (F.t 12 rfl)) fun a F => ?_
   refine lp rfl ?_
   refine w_call F (x_enter Tryz.func31 (by kernel_rfl) rfl (by simp only [bM, F.t 81 rfl] <;> rfl)) (Crc.sum_calls _ (Row.rd (ok' := fun k_ => (fun _ => False) k_ ∨ (.slice Ar78 (encI (msgF m)).length cr78 : Value).ownBlock = some k_) (H.row 78 rfl) (fun _ hk_ _ => .inl hk_) (fun _ hk_ => .inr hk_))) rfl rfl ?_
   rintro _ w ⟨rfl, hm_⟩; refine ⟨_, rfl, ?_⟩; clear F; intro a F; have H := H.same hm_
   refine la F rfl (x_assign (F.t 82 rfl)) fun a F => ?_
   refine wn (hK23 _ _ ?_)
   refine sr fun _ hK24 => ?_
   refine la F rfl (x_move (F.t 12 rfl)) fun a F => ?_
   refine la F rfl (x_move (F.t 14 rfl)) fun a F => ?_
   refine la F rfl (x_conv Tryz.underlying5 ⟨_, Tryz.underlying69⟩ (F.t 84 rfl) (IntKind.wrap_u8 _)) fun a F => ?_
   refine la F rfl (x_move (F.t 14 rfl)) fun a F => ?_
   refine la F rfl (x_shr (F.t 86 rfl) rfl (by omega) (shrU _).1) fun a F => ?_
   refine la F rfl (x_conv Tryz.underlying5 ⟨_, Tryz.underlying69⟩ (F.t 87 rfl) (IntKind.wrap_u8 _)) fun a F => ?_
   refine la F rfl (x_move (F.t 14 rfl)) fun a F => ?_
   refine la F rfl (x_shr (F.t 89 rfl) rfl (by omega) (shrU _).2.1) fun a F => ?_
   refine la F rfl (x_conv Tryz.underlying5 ⟨_, Tryz.underlying69⟩ (F.t 90 rfl) (IntKind.wrap_u8 _)) fun a F => ?_
   refine la F rfl (x_move (F.t 14 rfl)) fun a F => ?_
   refine la F rfl (x_shr (F.t 92 rfl) rfl (by omega) (shrU _).2.2) fun a F => ?_
   refine la F rfl (x_conv Tryz.underlying5 ⟨_, Tryz.underlying69⟩ (F.t 93 rfl) (IntKind.wrap_u8 _)) fun a F => ?_
   refine lp rfl ?_
   refine w_lit 95 (enc := Value.int .u8) (h1 := fun _ => rfl) (le4 (Crc.moreI 0 (encI (msgF m)))) F H rfl Tryz.underlying27 ty5 (by simp only [bM, F.t 85 rfl, F.t 88 rfl, F.t 91 rfl, F.t 94 rfl]; rfl) rfl (by decide) (by decide) (by kernel_rfl) ?_
   clear F H; intro a w b95 F H
   refine lp rfl ?_
   refine w_append 78 95 (xs := (encI (msgF m))) (ys := (le4 (Crc.moreI 0 (encI (msgF m))))) F H rfl Tryz.underlying27 ty5 rfl rfl rfl rfl (Row.rd (ok' := fun k_ => (fun _ => False) k_ ∨ (.slice (some ⟨b95, 0, none⟩) ((le4 (Crc.moreI 0 (encI (msgF m))))).length ((le4 (Crc.moreI 0 (encI (msgF m))))).length : Value).ownBlock = some k_) (H.row 95 rfl) (fun _ hk_ _ => .inl hk_) (fun _ hk_ => .inr hk_)) (by rintro k_ (hk_ | hk_); exact .inr hk_; exact .inl hk_) (F.t 83 rfl) (F.t 95 rfl) (by have := msgI_len hr hb; simp only [le4, List.length_cons, List.length_nil]; omega) (by have := msgI_len hr hb; simp only [le4, List.length_cons, List.length_nil, maxLen]; omega) (fun _ => False) (fun w' v' h => row_flat h _) (fun k_ hk_ => hk_.elim) ?_
   clear F H; intro a w v96 F H
   refine la F rfl (x_move (F.t 13 rfl)) fun a F => ?_
   refine la F rfl (x_assign (F.t 96 rfl)) fun a F => ?_
   refine la F rfl (x_assign (F.t 97 rfl)) fun a F => ?_
   refine wn (hK24 _ _ ?_)
   refine wp_ret ?_
   try simp only [Exit.then, Exit.inBlock]
   rw [encM_yes hr] at H
   exact fin_ret F (res2 F rfl rfl rfl) ⟨_, by rw [encME_yes hr] <;> rfl, H.mods, Hp.out H 78 rfl⟩
  have hk37_8 := hc37; try simp only [bL] at hc37
  refine wp_skip ?_
  refine hK6 _ _ ?_
  refine sr fun _ hK25 => ?_
  obtain ⟨fs, hfs⟩ : ∃ fs, fs = [((1, [m.kind, m.src, m.dst]) : Fld), ((2, bI m.tx) : Fld)] := ⟨_, rfl⟩
  rw [← hfs] at H F
  have hfs2 : fs = msgF m := hfs.trans (msgF_0 hc37)
  subst hfs2
  refine la F rfl (x_move (F.t 4 rfl)) fun a F => ?_
  refine lp rfl ?_
  refine w_call F (x_enter Tryz.func30 (by kernel_rfl) rfl (by simp only [bM, F.t 77 rfl] <;> rfl)) (enc_at (Row.rd (ok' := fun k_ => (fun kb => (fun kb => (Value.slice (some ⟨b27, 0, none⟩) ([m.kind, m.src, m.dst]).length ([m.kind, m.src, m.dst]).length).ownBlock = some kb) kb ∨ (fun kb => (Value.slice Ar32 (bI m.tx).length cr32).ownBlock = some kb) kb) k_ ∨ (.slice (some ⟨b34, 0, none⟩) (msgF m).length (msgF m).length : Value).ownBlock = some k_) (H.row 4 rfl) (fun _ hk_ _ => .inl hk_) (fun _ hk_ => .inr hk_)) (msg_encR hr hb)) rfl rfl ?_
  rintro _ w ⟨vr78, rfl, hm_, hr_⟩; refine ⟨_, rfl, ?_⟩; clear F; intro a F; have H := Hp.rowOut H 78 hm_ hr_; obtain ⟨Ar78, cr78, rfl⟩ := (H.row 78 rfl).form
  refine la F rfl (x_move (F.t 78 rfl)) fun a F => ?_
  refine la F rfl (x_extract (F.t 76 rfl) rfl) fun a F => ?_
  refine la F rfl (x_extract (F.t 76 rfl) rfl) fun a F => ?_
  refine la F rfl (x_assign (F.t 79 rfl)) fun a F => ?_
  refine la F rfl (x_assign (F.t 80 rfl)) fun a F => ?_
  refine wn (hK25 _ _ ?_)
  refine sr fun _ hK26 => ?_
  refine la F rfl (x_move (F.t 12 rfl)) fun a F => ?_
  refine lp rfl ?_
  refine w_call F (x_enter Tryz.func31 (by kernel_rfl) rfl (by simp only [bM, F.t 81 rfl] <;> rfl)) (Crc.sum_calls _ (Row.rd (ok' := fun k_ => (fun _ => False) k_ ∨ (.slice Ar78 (encI (msgF m)).length cr78 : Value).ownBlock = some k_) (H.row 78 rfl) (fun _ hk_ _ => .inl hk_) (fun _ hk_ => .inr hk_))) rfl rfl ?_
  rintro _ w ⟨rfl, hm_⟩; refine ⟨_, rfl, ?_⟩; clear F; intro a F; have H := H.same hm_
  refine la F rfl (x_assign (F.t 82 rfl)) fun a F => ?_
  refine wn (hK26 _ _ ?_)
  refine sr fun _ hK27 => ?_
  refine la F rfl (x_move (F.t 12 rfl)) fun a F => ?_
  refine la F rfl (x_move (F.t 14 rfl)) fun a F => ?_
  refine la F rfl (x_conv Tryz.underlying5 ⟨_, Tryz.underlying69⟩ (F.t 84 rfl) (IntKind.wrap_u8 _)) fun a F => ?_
  refine la F rfl (x_move (F.t 14 rfl)) fun a F => ?_
  refine la F rfl (x_shr (F.t 86 rfl) rfl (by omega) (shrU _).1) fun a F => ?_
  refine la F rfl (x_conv Tryz.underlying5 ⟨_, Tryz.underlying69⟩ (F.t 87 rfl) (IntKind.wrap_u8 _)) fun a F => ?_
  refine la F rfl (x_move (F.t 14 rfl)) fun a F => ?_
  refine la F rfl (x_shr (F.t 89 rfl) rfl (by omega) (shrU _).2.1) fun a F => ?_
  refine la F rfl (x_conv Tryz.underlying5 ⟨_, Tryz.underlying69⟩ (F.t 90 rfl) (IntKind.wrap_u8 _)) fun a F => ?_
  refine la F rfl (x_move (F.t 14 rfl)) fun a F => ?_
  refine la F rfl (x_shr (F.t 92 rfl) rfl (by omega) (shrU _).2.2) fun a F => ?_
  refine la F rfl (x_conv Tryz.underlying5 ⟨_, Tryz.underlying69⟩ (F.t 93 rfl) (IntKind.wrap_u8 _)) fun a F => ?_
  refine lp rfl ?_
  refine w_lit 95 (enc := Value.int .u8) (h1 := fun _ => rfl) (le4 (Crc.moreI 0 (encI (msgF m)))) F H rfl Tryz.underlying27 ty5 (by simp only [bM, F.t 85 rfl, F.t 88 rfl, F.t 91 rfl, F.t 94 rfl]; rfl) rfl (by decide) (by decide) (by kernel_rfl) ?_
  clear F H; intro a w b95 F H
  refine lp rfl ?_
  refine w_append 78 95 (xs := (encI (msgF m))) (ys := (le4 (Crc.moreI 0 (encI (msgF m))))) F H rfl Tryz.underlying27 ty5 rfl rfl rfl rfl (Row.rd (ok' := fun k_ => (fun _ => False) k_ ∨ (.slice (some ⟨b95, 0, none⟩) ((le4 (Crc.moreI 0 (encI (msgF m))))).length ((le4 (Crc.moreI 0 (encI (msgF m))))).length : Value).ownBlock = some k_) (H.row 95 rfl) (fun _ hk_ _ => .inl hk_) (fun _ hk_ => .inr hk_)) (by rintro k_ (hk_ | hk_); exact .inr hk_; exact .inl hk_) (F.t 83 rfl) (F.t 95 rfl) (by have := msgI_len hr hb; simp only [le4, List.length_cons, List.length_nil]; omega) (by have := msgI_len hr hb; simp only [le4, List.length_cons, List.length_nil, maxLen]; omega) (fun _ => False) (fun w' v' h => row_flat h _) (fun k_ hk_ => hk_.elim) ?_
  clear F H; intro a w v96 F H
  refine la F rfl (x_move (F.t 13 rfl)) fun a F => ?_
  refine la F rfl (x_assign (F.t 96 rfl)) fun a F => ?_
  refine la F rfl (x_assign (F.t 97 rfl)) fun a F => ?_
  refine wn (hK27 _ _ ?_)
  refine wp_ret ?_
  try simp only [Exit.then, Exit.inBlock]
  rw [encM_yes hr] at H
  exact fin_ret F (res2 F rfl rfl rfl) ⟨_, by rw [encME_yes hr] <;> rfl, H.mods, Hp.out H 78 rfl⟩
 ·
  refine w_call F (x_enter Tryz.func28 (by kernel_rfl) rfl (by simp only [bM, F.t 31 rfl] <;> rfl)) (bI_calls _ (by have := (rightM_parts hr).tx; exact ⟨by omega, by omega⟩)) rfl rfl ?_
  rintro _ w ⟨vr32, rfl, hm_, hr_⟩; refine ⟨_, rfl, ?_⟩; clear F; intro a F; have H := Hp.rowOut H 32 hm_ hr_; obtain ⟨Ar32, cr32, rfl⟩ := (H.row 32 rfl).form
  refine aN (SL.of H (sub_cons (sub_nil _) 1 rfl)) fun hS => ?_
  have H := H.freeze 32 rfl (fun kb => (Value.slice Ar32 (bI m.tx).length cr32).ownBlock = some kb) (fun kb => ⟨fun h => .inr h, fun h => h.resolve_left id⟩)
  refine rT 15 F rfl (by kernel_rfl) pq rfl hS (fun w hS => x_buildS (cells := #[.int .i64 2, .slice Ar32 (bI m.tx).length cr32]) (places := #[(0, 1), (1, 1)]) Tryz.underlying57 ty57 (by kernel_rfl) (by simp only [bM, F.t 32 rfl] <;> rfl) rfl) rfl fun a F => ?_
  refine r_do 9 rfl (by kernel_rfl) rfl rfl ?_
  refine w_lit 27 (enc := Value.int .u8) (h1 := fun _ => rfl) ([m.kind, m.src, m.dst]) F H rfl Tryz.underlying27 ty5 (by simp only [bM, F.t 20 rfl, F.t 23 rfl, F.t 26 rfl]; rfl) rfl (by decide) (by decide) (by kernel_rfl) ?_
  clear F H; intro a w b27 F H
  refine aN (SL.of H (sub_cons (sub_nil _) 1 rfl)) fun hS => ?_
  have H := H.freeze 27 rfl (fun kb => (Value.slice (some ⟨b27, 0, none⟩) ([m.kind, m.src, m.dst]).length ([m.kind, m.src, m.dst]).length).ownBlock = some kb) (fun kb => ⟨fun h => .inr h, fun h => h.resolve_left id⟩)
  refine rT 10 F rfl (by kernel_rfl) pq rfl hS (fun w hS => x_buildS (cells := #[.int .i64 1, .slice (some ⟨b27, 0, none⟩) ([m.kind, m.src, m.dst]).length ([m.kind, m.src, m.dst]).length]) (places := #[(0, 1), (1, 1)]) Tryz.underlying57 ty57 (by kernel_rfl) (by simp only [bM, F.t 27 rfl] <;> rfl) rfl) rfl fun a F => ?_
  refine r_do 16 rfl (by kernel_rfl) rfl rfl ?_
  refine w_litE 4 FE ([((1, [m.kind, m.src, m.dst]) : Fld), ((2, bI m.tx) : Fld)]) #[.int .i64 1, .slice (some ⟨b27, 0, none⟩) ([m.kind, m.src, m.dst]).length ([m.kind, m.src, m.dst]).length, .int .i64 2, .slice Ar32 (bI m.tx).length cr32] (fun kb => (fun kb => (Value.slice (some ⟨b27, 0, none⟩) ([m.kind, m.src, m.dst]).length ([m.kind, m.src, m.dst]).length).ownBlock = some kb) kb ∨ (fun kb => (Value.slice Ar32 (bI m.tx).length cr32).ownBlock = some kb) kb) F H rfl Tryz.underlying60 ty57 (by simp only [bM, F.t 28 rfl, F.t 33 rfl] <;> rfl) rfl (by decide) (by decide) (by kernel_rfl) ((Elems.single (fld_mk (f := ((1, [m.kind, m.src, m.dst]) : Fld)) (((H.rd 27 rfl)).move (fun _ _ _ => rfl) (fun k h _ => .inl h)))).append (Elems.single (fld_mk (f := ((2, bI m.tx) : Fld)) (((H.rd 32 rfl)).move (fun _ _ _ => rfl) (fun k h _ => .inr h))))) (fun kb hk => hk.elim (fun h => ⟨27, _, rfl, h⟩) (fun h => ⟨32, _, rfl, h⟩)) ?_
  clear F H; intro a w b34 F H
  refine aN (SL.of H (sub_cons (sub_nil _) 1 rfl)) fun hS => ?_
  refine rT 17 F rfl (by kernel_rfl) pq rfl hS (fun w hS => x_assign (F.t 34 rfl)) rfl fun a F => ?_
  refine r_end (by kernel_rfl) ?_; clear hS
  refine hK5 _ _ ?_
  refine wp_seq_k fun _ hK28 => ?_
  refine sr fun _ hK29 => ?_
  refine la F rfl (x_faddr Tryz.underlying26 rfl ty22 (by decide) (F.t 1 rfl) rfl) fun a F => ?_
  refine la F rfl (x_load1 ty22 (F.t 35 rfl) (blk_cell (H.at 1 rfl) 0 rfl)) fun a F => ?_
  refine la F rfl (x_eql (F.t 36 rfl) rfl) fun a F => ?_
  refine wn (hK29 _ _ ?_)
  refine wp_cond_split (F.t 37 rfl) (fun hc37 => ?_) (fun hc37 => ?_)
  ·have hk37_9 := hc37; try simp only [bL] at hc37
   have hnl := nodes_len ((rightM_parts hr).prep hc37).2.1 (by omega) (by omega)
   have hcl := ((rightM_parts hr).prep hc37).2.2.1
   refine sr fun _ hK30 => ?_
   refine la F rfl (x_buildS (cells := #[.int .i64 3, .slice none 0 0]) (places := #[(0, 1), (1, 1)]) Tryz.underlying57 ty57 (by kernel_rfl) (by simp only [bM] <;> rfl) rfl) fun a F => ?_
   refine lp rfl ?_
   refine w_alloc 5 F H rfl ty57 ?_
   clear F H; intro a w b5 F H
   refine lp rfl ?_
   refine w_storeA 5 H ty57 rfl (F.t 5 rfl) (F.t 38 rfl) rfl (by simp [Value.cells, Value.oneCell']) rfl ?_
   clear H; intro w H
   have H := H.row0 50 (.int .u8) 5
   refine wn (hK30 _ _ ?_)
   refine wp_seq_k fun _ hK31 => ?_
   refine sr fun _ hK32 => ?_
   refine la F rfl (x_faddr Tryz.underlying26 rfl ty23 (by decide) (F.t 1 rfl) rfl) fun a F => ?_
   refine la F rfl (x_load1 ty23 (F.t 39 rfl) (blk_cell (H.at 1 rfl) 4 rfl)) fun a F => ?_
   refine la F rfl (x_len_slice Tryz.underlying23 (F.t 40 rfl)) fun a F => ?_
   refine la F rfl (x_move rfl) fun a F => ?_
   refine wn (hK32 _ _ ?_)
   refine wp_block ?_
   refine wp_loop_ghost (fun n_ a w => ∃ k : Nat, ∃ Ad : Option Addr, ∃ cd : Nat, n_ = m.nodes.length - k ∧ (k ≤ m.nodes.length) ∧ Fr 98 a [(1, .pointer (some ⟨b1, 0, none⟩)), (4, .slice (some ⟨b34, 0, none⟩) ([((1, [m.kind, m.src, m.dst]) : Fld), ((2, bI m.tx) : Fld)]).length ([((1, [m.kind, m.src, m.dst]) : Fld), ((2, bI m.tx) : Fld)]).length), (5, .pointer (some ⟨b5, 0, none⟩)), (40, .slice Am0 m.nodes.length cm0), (41, .int .i64 (m.nodes.length : Int)), (42, .int .i64 (k : Int))] ∧ Hp (fun _ => False) w0 w [(900, .rd_ (.int .i64) Am0 m.nodes cm0 (fun k => k < w0.heap.size)), (901, .rd_ ChgE Am1 m.changes cm1 (fun k => k < w0.heap.size)), (990, .lib pp), (1, .blk b1 (.cells #[.int .i64 m.kind, .int .i64 m.src, .int .i64 m.dst, .int .i64 m.tx, .slice Am0 m.nodes.length cm0, .slice Am1 m.changes.length cm1] 26 (0, 0))), (32, .rd_ (.int .u8) Ar32 (bI m.tx) cr32 (fun kb => (Value.slice Ar32 (bI m.tx).length cr32).ownBlock = some kb)), (27, .rd_ (.int .u8) (some ⟨b27, 0, none⟩) ([m.kind, m.src, m.dst]) ([m.kind, m.src, m.dst]).length (fun kb => (Value.slice (some ⟨b27, 0, none⟩) ([m.kind, m.src, m.dst]).length ([m.kind, m.src, m.dst]).length).ownBlock = some kb)), (4, .row FE 57 (.slice (some ⟨b34, 0, none⟩) ([((1, [m.kind, m.src, m.dst]) : Fld), ((2, bI m.tx) : Fld)]).length ([((1, [m.kind, m.src, m.dst]) : Fld), ((2, bI m.tx) : Fld)]).length) ([((1, [m.kind, m.src, m.dst]) : Fld), ((2, bI m.tx) : Fld)]) (fun kb => (fun kb => (Value.slice (some ⟨b27, 0, none⟩) ([m.kind, m.src, m.dst]).length ([m.kind, m.src, m.dst]).length).ownBlock = some kb) kb ∨ (fun kb => (Value.slice Ar32 (bI m.tx).length cr32).ownBlock = some kb) kb)), (5, .blk b5 (.cells #[.int .i64 3, .slice Ad (m.nodes.take k).length cd] 57 (0, 0))), (50, .row (.int .u8) 5 (.slice Ad (m.nodes.take k).length cd) (m.nodes.take k) (fun _ => False))]) (m.nodes.length) ?_ ?_
   ·exact ⟨0, none, 0, rfl, by omega, ((((((F.bare.add F 42 rfl).add F 41 rfl).add F 40 rfl).add F 5 rfl).add F 4 rfl).add F 1 rfl), H.sub _ (sub_cons (sub_cons (sub_cons (sub_cons (sub_cons (sub_cons (sub_cons (sub_cons (sub_cons (sub_nil _) 50 rfl) 5 rfl) 4 rfl) 27 rfl) 32 rfl) 1 rfl) 990 rfl) 901 rfl) 900 rfl)⟩
   rintro _ a w ⟨k, Ad, cd, rfl, hq0_0, F, H⟩
   refine sr fun _ hK33 => ?_
   refine la F rfl (x_lss (F.t 42 rfl) (F.t 41 rfl)) fun a F => ?_
   refine wn (hK33 _ _ ?_)
   refine wp_seq_k fun _ hK34 => ?_
   refine wp_cond_split (F.t 43 rfl) (fun hc43 => ?_) (fun hc43 => ?_)
   ·have hk43_10 := hc43; try simp only [bL] at hc43
    refine wp_skip ?_
    refine hK34 _ _ ?_
    refine wp_seq_k fun _ hK35 => ?_
    refine wp_block ?_
    refine sr fun _ hK36 => ?_
    have hmem : (gi m.nodes (k : Int)) ∈ m.nodes := List.mem_of_getElem? (gi_some (xs := m.nodes) (i := (k : Int)) (by omega) (by omega))
    refine la F rfl (x_iaddr_A Tryz.underlying23 ty3 ((H.rd 900 rfl)) (F.t 40 rfl) (F.t 42 rfl) (by omega) (by omega) _) fun a F => ?_
    refine la F rfl (x_load1 ty3 (F.t 44 rfl) (((H.rd 900 rfl)).cellA (gi_some (i := (k : Int)) (by omega) (by omega)))) fun a F => ?_
    refine la F rfl (x_assign (F.t 45 rfl)) fun a F => ?_
    refine wn (hK36 _ _ ?_)
    refine wp_region_lit ?_
    refine la F rfl (x_faddr Tryz.underlying57 rfl ty27 (by decide) (F.t 5 rfl) rfl) fun a F => ?_
    refine la F rfl (x_load1 ty27 (F.t 46 rfl) (blk_cell (H.at 5 rfl) 1 rfl)) fun a F => ?_
    refine la F rfl (x_move (F.t 7 rfl)) fun a F => ?_
    refine la F rfl (x_conv Tryz.underlying5 ⟨_, Tryz.underlying3⟩ (F.t 48 rfl) (wu8 (by have := nodes_in ((rightM_parts hr).prep hc37).2.1 _ hmem; omega) (by have := nodes_in ((rightM_parts hr).prep hc37).2.1 _ hmem; omega))) fun a F => ?_
    refine lp rfl ?_
    refine w_lit 950 (enc := Value.int .u8) (h1 := fun _ => rfl) ([(gi m.nodes (k : Int))]) F H rfl Tryz.underlying27 ty5 (by simp only [bM, F.t 49 rfl]; rfl) rfl (by decide) (by decide) (by kernel_rfl) ?_
    clear F H; intro a w b50 F H
    refine lp rfl ?_
    refine w_append 50 950 (xs := (m.nodes.take k)) (ys := ([(gi m.nodes (k : Int))])) F H rfl Tryz.underlying27 ty5 rfl rfl rfl rfl (Row.rd (ok' := fun k_ => (fun _ => False) k_ ∨ (.slice (some ⟨b50, 0, none⟩) ([(gi m.nodes (k : Int))]).length ([(gi m.nodes (k : Int))]).length : Value).ownBlock = some k_) (H.row 950 rfl) (fun _ hk_ _ => .inl hk_) (fun _ hk_ => .inr hk_)) (by rintro k_ (hk_ | hk_); exact .inr hk_; exact .inl hk_) (F.t 47 rfl) (F.t 50 rfl) (by simp only [lN]; omega) (by simp only [lN, maxLen]; omega) (fun _ => False) (fun w' v' h => row_flat h _) (fun k_ hk_ => hk_.elim) ?_
    clear F H; intro a w v51 F H
    obtain ⟨A51, c51, rfl⟩ := (H.row 50 rfl).form
    refine la F rfl (x_faddr Tryz.underlying57 rfl ty27 (by decide) (F.t 5 rfl) rfl) fun a F => ?_
    refine lp rfl ?_
    refine w_store 5 H ty27 rfl (F.t 52 rfl) (F.t 51 rfl) rfl (one1 rfl rfl) (by first | decide | exact Nat.le_of_ble_eq_true rfl) ?_
    clear H; intro w H
    refine wn (hK35 _ _ ?_)
    refine wp_region_lit ?_
    refine la F rfl (x_add (F.t 42 rfl) rfl (w64 (by omega) (by omega))) fun a F => ?_
    refine la F rfl (x_move (F.t 53 rfl)) fun a F => ?_
    refine wpList_nil ?_
    have hHs : Hp (fun _ => False) w0 w [(900, .rd_ (.int .i64) Am0 m.nodes cm0 (fun k => k < w0.heap.size)), (901, .rd_ ChgE Am1 m.changes cm1 (fun k => k < w0.heap.size)), (990, .lib pp), (1, .blk b1 (.cells #[.int .i64 m.kind, .int .i64 m.src, .int .i64 m.dst, .int .i64 m.tx, .slice Am0 m.nodes.length cm0, .slice Am1 m.changes.length cm1] 26 (0, 0))), (32, .rd_ (.int .u8) Ar32 (bI m.tx) cr32 (fun kb => (Value.slice Ar32 (bI m.tx).length cr32).ownBlock = some kb)), (27, .rd_ (.int .u8) (some ⟨b27, 0, none⟩) ([m.kind, m.src, m.dst]) ([m.kind, m.src, m.dst]).length (fun kb => (Value.slice (some ⟨b27, 0, none⟩) ([m.kind, m.src, m.dst]).length ([m.kind, m.src, m.dst]).length).ownBlock = some kb)), (4, .row FE 57 (.slice (some ⟨b34, 0, none⟩) ([((1, [m.kind, m.src, m.dst]) : Fld), ((2, bI m.tx) : Fld)]).length ([((1, [m.kind, m.src, m.dst]) : Fld), ((2, bI m.tx) : Fld)]).length) ([((1, [m.kind, m.src, m.dst]) : Fld), ((2, bI m.tx) : Fld)]) (fun kb => (fun kb => (Value.slice (some ⟨b27, 0, none⟩) ([m.kind, m.src, m.dst]).length ([m.kind, m.src, m.dst]).length).ownBlock = some kb) kb ∨ (fun kb => (Value.slice Ar32 (bI m.tx).length cr32).ownBlock = some kb) kb)), (5, .blk b5 (.cells #[.int .i64 3, .slice A51 (m.nodes.take k ++ [(gi m.nodes (k : Int))]).length c51] 57 (0, 0))), (50, .row (.int .u8) 5 (.slice A51 (m.nodes.take k ++ [(gi m.nodes (k : Int))]).length c51) (m.nodes.take k ++ [(gi m.nodes (k : Int))]) (fun _ => False))] := H.sub _ (sub_cons (sub_cons (sub_cons (sub_cons (sub_cons (sub_cons (sub_cons (sub_cons (sub_cons (sub_nil _) 50 rfl) 5 rfl) 4 rfl) 27 rfl) 32 rfl) 1 rfl) 990 rfl) 901 rfl) 900 rfl)
    rw [← gi_step hc43] at hHs
    exact ⟨_, by omega, ⟨k + 1, A51, c51, rfl, by omega, ((((((F.bare.add F 42 rfl).add F 41 rfl).add F 40 rfl).add F 5 rfl).add F 4 rfl).add F 1 rfl), hHs⟩⟩
   have hk43_11 := hc43; try simp only [bL] at hc43
   refine wp_exit ?_
   refine hK31 _ _ ?_
   refine sr fun _ hK37 => ?_
   obtain rfl : k = m.nodes.length := by omega
   rw [List.take_length] at H
   have H := H.freeze 50 rfl (fun kb => (Value.slice Ad m.nodes.length cd).ownBlock = some kb) (fun kb => ⟨fun h => .inr h, fun h => h.resolve_left id⟩)
   refine la F rfl (x_move (F.t 4 rfl)) fun a F => ?_
   refine la F rfl (x_loadn ty57 (F.t 5 rfl) rfl (blk_whole (H.at 5 rfl))) fun a F => ?_
   refine lp rfl ?_
   refine w_lit1 56 FE ((3, m.nodes) : Fld) #[.int .i64 3, .slice Ad m.nodes.length cd] (fun kb => (Value.slice Ad m.nodes.length cd).ownBlock = some kb) F H rfl Tryz.underlying60 ty57 (by simp only [bM, F.t 55 rfl] <;> rfl) (by decide) (by kernel_rfl) (fld_mk (f := ((3, m.nodes) : Fld)) ((H.rd 50 rfl))) (fun kb hk => ⟨50, _, rfl, hk⟩) ?_
   clear F H; intro a w b56 F hb56_ H
   refine lp rfl ?_
   refine w_append 4 56 (xs := ([((1, [m.kind, m.src, m.dst]) : Fld), ((2, bI m.tx) : Fld)])) (ys := ([((3, m.nodes) : Fld)])) F H rfl Tryz.underlying60 ty57 rfl rfl rfl rfl ((H.rd 56 rfl)) oI (F.t 54 rfl) (F.t 56 rfl) (by simp only [lN] at *; omega) (by simp only [lN, maxLen] at *; omega) (fun kb => (fun kb => (fun kb => (Value.slice (some ⟨b27, 0, none⟩) ([m.kind, m.src, m.dst]).length ([m.kind, m.src, m.dst]).length).ownBlock = some kb) kb ∨ (fun kb => (Value.slice Ar32 (bI m.tx).length cr32).ownBlock = some kb) kb) kb ∨ (fun kb => (fun kb => (Value.slice Ad m.nodes.length cd).ownBlock = some kb) kb ∨ kb = b56) kb) (fun w' v' h => h) (by rintro k_ (hk_ | hk_); exact .inl hk_; exact .inr hk_) ?_
   clear F H; intro a w v57 F H
   refine la F rfl (x_assign (F.t 57 rfl)) fun a F => ?_
   refine wn (hK37 _ _ ?_)
   refine sr fun _ hK38 => ?_
   refine la F rfl (x_faddr Tryz.underlying26 rfl ty24 (by decide) (F.t 1 rfl) rfl) fun a F => ?_
   refine la F rfl (x_load1 ty24 (F.t 58 rfl) (blk_cell (H.at 1 rfl) 5 rfl)) fun a F => ?_
   refine la F rfl (x_len_slice Tryz.underlying24 (F.t 59 rfl)) fun a F => ?_
   refine la F rfl (x_move rfl) fun a F => ?_
   refine wn (hK38 _ _ ?_)
   refine wp_block ?_
   refine wp_loop_ghost (fun n_ a w => ∃ k : Nat, ∃ v4 : Value, ∃ okv : Nat → Prop, n_ = m.changes.length - k ∧ (k ≤ m.changes.length) ∧ Fr 98 a [(4, v4), (59, .slice Am1 m.changes.length cm1), (60, .int .i64 (m.changes.length : Int)), (61, .int .i64 (k : Int))] ∧ Hp (fun _ => False) w0 w [(900, .rd_ (.int .i64) Am0 m.nodes cm0 (fun k => k < w0.heap.size)), (901, .rd_ ChgE Am1 m.changes cm1 (fun k => k < w0.heap.size)), (990, .lib pp), (1, .blk b1 (.cells #[.int .i64 m.kind, .int .i64 m.src, .int .i64 m.dst, .int .i64 m.tx, .slice Am0 m.nodes.length cm0, .slice Am1 m.changes.length cm1] 26 (0, 0))), (32, .rd_ (.int .u8) Ar32 (bI m.tx) cr32 (fun kb => (Value.slice Ar32 (bI m.tx).length cr32).ownBlock = some kb)), (27, .rd_ (.int .u8) (some ⟨b27, 0, none⟩) ([m.kind, m.src, m.dst]) ([m.kind, m.src, m.dst]).length (fun kb => (Value.slice (some ⟨b27, 0, none⟩) ([m.kind, m.src, m.dst]).length ([m.kind, m.src, m.dst]).length).ownBlock = some kb)), (4, .row FE 57 v4 (([((1, [m.kind, m.src, m.dst]) : Fld), ((2, bI m.tx) : Fld)] ++ [((3, m.nodes) : Fld)]) ++ (m.changes.take k).map (fun c => ((4, encC c) : Fld))) okv), (5, .blk b5 (.cells #[.int .i64 3, .slice Ad m.nodes.length cd] 57 (0, 0))), (50, .rd_ (.int .u8) Ad m.nodes cd (fun kb => (Value.slice Ad m.nodes.length cd).ownBlock = some kb)), (56, .rd_ FE (some ⟨b56, 0, none⟩) [((3, m.nodes) : Fld)] 1 (fun kb => (fun kb => (Value.slice Ad m.nodes.length cd).ownBlock = some kb) kb ∨ kb = b56))]) (m.changes.length) ?_ ?_
   ·exact ⟨0, v57, (fun kb => (fun kb => (fun kb => (Value.slice (some ⟨b27, 0, none⟩) ([m.kind, m.src, m.dst]).length ([m.kind, m.src, m.dst]).length).ownBlock = some kb) kb ∨ (fun kb => (Value.slice Ar32 (bI m.tx).length cr32).ownBlock = some kb) kb) kb ∨ (fun kb => (fun kb => (Value.slice Ad m.nodes.length cd).ownBlock = some kb) kb ∨ kb = b56) kb), rfl, by omega, ((((F.bare.add F 61 rfl).add F 60 rfl).add F 59 rfl).add F 4 rfl), H.sub _ (sub_cons (sub_cons (sub_cons (sub_cons (sub_cons (sub_cons (sub_cons (sub_cons (sub_cons (sub_cons (sub_nil _) 56 rfl) 50 rfl) 5 rfl) 4 rfl) 27 rfl) 32 rfl) 1 rfl) 990 rfl) 901 rfl) 900 rfl)⟩
   rintro _ a w ⟨k, v4, okv, rfl, hq2_0, F, H⟩
   refine sr fun _ hK39 => ?_
   refine la F rfl (x_lss (F.t 61 rfl) (F.t 60 rfl)) fun a F => ?_
   refine wn (hK39 _ _ ?_)
   refine wp_seq_k fun _ hK40 => ?_
   refine wp_cond_split (F.t 62 rfl) (fun hc62 => ?_) (fun hc62 => ?_)
   ·have hk62_12 := hc62; try simp only [bL] at hc62
    refine wp_skip ?_
    refine hK40 _ _ ?_
    refine wp_seq_k fun _ hK41 => ?_
    refine wp_block ?_
    refine sr fun _ hK42 => ?_
    obtain ⟨fA1, fc1, hfr1, hf1_0, hf1_1, hf1_2, hf1_3, hf1_4, hf1_5, hf1_6, hf1_7, hfw1⟩ := rd_chg ((H.rd 901 rfl)) (gchg_some (xs := m.changes) (i := (k : Int)) (by omega) (by omega))
    have H := H.subrd 901 rfl 1007 hfr1 (fun _ h => h)
    have H := H.subcels 901 rfl 1499 hfw1 (Rd.inok ((H.rd 901 rfl)) (by omega) _)
    have H := H.subcel 901 rfl 1500 hf1_0 (Rd.inok ((H.rd 901 rfl)) (by omega) _)
    have H := H.subcel 901 rfl 1501 hf1_1 (Rd.inok ((H.rd 901 rfl)) (by omega) _)
    have H := H.subcel 901 rfl 1502 hf1_2 (Rd.inok ((H.rd 901 rfl)) (by omega) _)
    have H := H.subcel 901 rfl 1503 hf1_3 (Rd.inok ((H.rd 901 rfl)) (by omega) _)
    have H := H.subcel 901 rfl 1504 hf1_4 (Rd.inok ((H.rd 901 rfl)) (by omega) _)
    have H := H.subcel 901 rfl 1505 hf1_5 (Rd.inok ((H.rd 901 rfl)) (by omega) _)
    have H := H.subcel 901 rfl 1506 hf1_6 (Rd.inok ((H.rd 901 rfl)) (by omega) _)
    have H := H.subcel 901 rfl 1507 hf1_7 (Rd.inok ((H.rd 901 rfl)) (by omega) _)
    refine la F rfl (x_iaddr_A Tryz.underlying24 ty66 ((H.rd 901 rfl)) (F.t 59 rfl) (F.t 61 rfl) (by omega) (by omega) _) fun a F => ?_
    refine la F rfl (x_loadn ty66 (F.t 63 rfl) rfl (H.holds 1499 _ rfl)) fun a F => ?_
    refine lp rfl ?_
    refine w_alloc 9 F H rfl ty66 ?_
    clear F H; intro a w b9 F H
    refine lp rfl ?_
    refine w_storeA 9 H ty66 rfl (F.t 9 rfl) (F.t 64 rfl) rfl (by simp [Value.cells, Value.oneCell']) rfl ?_
    clear H; intro w H
    refine wn (hK42 _ _ ?_)
    refine sr fun _ hK43 => ?_
    refine la F rfl (x_loadn ty66 (F.t 9 rfl) rfl (blk_whole (H.at 9 rfl))) fun a F => ?_
    refine lp rfl ?_
    refine w_call F (x_enter Tryz.func29 (by kernel_rfl) rfl (by simp only [bM, F.t 66 rfl] <;> rfl)) (encC_calls _ (H.holds 990 _ rfl) ((H.rd 1007 rfl)) (hb.changes _ (gchg_mem (xs := m.changes) (j := k) (by omega)))) rfl rfl ?_
    rintro _ w ⟨vr67, rfl, hm_, hr_⟩; refine ⟨_, rfl, ?_⟩; clear F; intro a F; have H := Hp.rowOut H 67 hm_ hr_; obtain ⟨Ar67, cr67, rfl⟩ := (H.row 67 rfl).form
    refine la F rfl (x_move (F.t 67 rfl)) fun a F => ?_
    refine la F rfl (x_extract (F.t 65 rfl) rfl) fun a F => ?_
    refine la F rfl (x_extract (F.t 65 rfl) rfl) fun a F => ?_
    refine la F rfl (x_assign (F.t 68 rfl)) fun a F => ?_
    refine la F rfl (x_assign (F.t 69 rfl)) fun a F => ?_
    refine wn (hK43 _ _ ?_)
    refine wp_region_lit ?_
    have H := H.freeze 67 rfl (fun kb => (Value.slice Ar67 (encC (gchg m.changes (k : Int))).length cr67).ownBlock = some kb) (fun kb => ⟨fun h => .inr h, fun h => h.resolve_left id⟩)
    refine la F rfl (x_move (F.t 4 rfl)) fun a F => ?_
    refine la F rfl (x_move (F.t 10 rfl)) fun a F => ?_
    refine la F rfl (x_buildS (cells := #[.int .i64 4, .slice Ar67 (encC (gchg m.changes (k : Int))).length cr67]) (places := #[(0, 1), (1, 1)]) Tryz.underlying57 ty57 (by kernel_rfl) (by simp only [bM, F.t 71 rfl] <;> rfl) rfl) fun a F => ?_
    refine lp rfl ?_
    refine w_lit1 73 FE ((4, (encC (gchg m.changes (k : Int)))) : Fld) #[.int .i64 4, .slice Ar67 (encC (gchg m.changes (k : Int))).length cr67] (fun kb => (Value.slice Ar67 (encC (gchg m.changes (k : Int))).length cr67).ownBlock = some kb) F H rfl Tryz.underlying60 ty57 (by simp only [bM, F.t 72 rfl] <;> rfl) (by decide) (by kernel_rfl) (fld_mk (f := ((4, (encC (gchg m.changes (k : Int)))) : Fld)) ((H.rd 67 rfl))) (fun kb hk => ⟨67, _, rfl, hk⟩) ?_
    clear F H; intro a w b73 F hb73_ H
    refine lp rfl ?_
    refine w_append 4 73 (xs := (([((1, [m.kind, m.src, m.dst]) : Fld), ((2, bI m.tx) : Fld)] ++ [((3, m.nodes) : Fld)]) ++ (m.changes.take k).map (fun c => ((4, encC c) : Fld)))) (ys := ([((4, (encC (gchg m.changes (k : Int)))) : Fld)])) F H rfl Tryz.underlying60 ty57 rfl rfl rfl rfl ((H.rd 73 rfl)) oI (F.t 70 rfl) (F.t 73 rfl) (by simp only [lN] at *; omega) (by simp only [lN, maxLen] at *; omega) (fun kb => okv kb ∨ (fun kb => (fun kb => (Value.slice Ar67 (encC (gchg m.changes (k : Int))).length cr67).ownBlock = some kb) kb ∨ kb = b73) kb) (fun w' v' h => h) (by rintro k_ (hk_ | hk_); exact .inl hk_; exact .inr hk_) ?_
    clear F H; intro a w v74 F H
    refine la F rfl (x_assign (F.t 74 rfl)) fun a F => ?_
    refine wn (hK41 _ _ ?_)
    refine wp_region_lit ?_
    refine la F rfl (x_add (F.t 61 rfl) rfl (w64 (by omega) (by omega))) fun a F => ?_
    refine la F rfl (x_move (F.t 75 rfl)) fun a F => ?_
    refine wpList_nil ?_
    have hHs : Hp (fun _ => False) w0 w [(900, .rd_ (.int .i64) Am0 m.nodes cm0 (fun k => k < w0.heap.size)), (901, .rd_ ChgE Am1 m.changes cm1 (fun k => k < w0.heap.size)), (990, .lib pp), (1, .blk b1 (.cells #[.int .i64 m.kind, .int .i64 m.src, .int .i64 m.dst, .int .i64 m.tx, .slice Am0 m.nodes.length cm0, .slice Am1 m.changes.length cm1] 26 (0, 0))), (32, .rd_ (.int .u8) Ar32 (bI m.tx) cr32 (fun kb => (Value.slice Ar32 (bI m.tx).length cr32).ownBlock = some kb)), (27, .rd_ (.int .u8) (some ⟨b27, 0, none⟩) ([m.kind, m.src, m.dst]) ([m.kind, m.src, m.dst]).length (fun kb => (Value.slice (some ⟨b27, 0, none⟩) ([m.kind, m.src, m.dst]).length ([m.kind, m.src, m.dst]).length).ownBlock = some kb)), (4, .row FE 57 v74 ((([((1, [m.kind, m.src, m.dst]) : Fld), ((2, bI m.tx) : Fld)] ++ [((3, m.nodes) : Fld)]) ++ (m.changes.take k).map (fun c => ((4, encC c) : Fld))) ++ [((4, encC (gchg m.changes (k : Int))) : Fld)]) (fun kb => okv kb ∨ (fun kb => (fun kb => (Value.slice Ar67 (encC (gchg m.changes (k : Int))).length cr67).ownBlock = some kb) kb ∨ kb = b73) kb)), (5, .blk b5 (.cells #[.int .i64 3, .slice Ad m.nodes.length cd] 57 (0, 0))), (50, .rd_ (.int .u8) Ad m.nodes cd (fun kb => (Value.slice Ad m.nodes.length cd).ownBlock = some kb)), (56, .rd_ FE (some ⟨b56, 0, none⟩) [((3, m.nodes) : Fld)] 1 (fun kb => (fun kb => (Value.slice Ad m.nodes.length cd).ownBlock = some kb) kb ∨ kb = b56))] := H.sub _ (sub_cons (sub_cons (sub_cons (sub_cons (sub_cons (sub_cons (sub_cons (sub_cons (sub_cons (sub_cons (sub_nil _) 56 rfl) 50 rfl) 5 rfl) 4 rfl) 27 rfl) 32 rfl) 1 rfl) 990 rfl) 901 rfl) 900 rfl)
    rw [chg_stepL hc62] at hHs
    exact ⟨_, by omega, ⟨k + 1, v74, (fun kb => okv kb ∨ (fun kb => (fun kb => (Value.slice Ar67 (encC (gchg m.changes (k : Int))).length cr67).ownBlock = some kb) kb ∨ kb = b73) kb), rfl, by omega, ((((F.bare.add F 61 rfl).add F 60 rfl).add F 59 rfl).add F 4 rfl), hHs⟩⟩
   have hk62_13 := hc62; try simp only [bL] at hc62
   refine wp_exit ?_
   refine hK28 _ _ ?_
   refine sr fun _ hK44 => ?_
   obtain rfl : k = m.changes.length := by omega
   rw [List.take_length] at H
   rw [msgF_1 hc37] at H
   obtain ⟨Av, cv, rfl⟩ := (H.row 4 rfl).form
   refine la F rfl (x_move (F.t 4 rfl)) fun a F => ?_
   refine lp rfl ?_
   refine w_call F (x_enter Tryz.func30 (by kernel_rfl) rfl (by simp only [bM, F.t 77 rfl] <;> rfl)) (enc_at (Row.rd (ok' := fun k_ => okv k_ ∨ (.slice Av (msgF m).length cv : Value).ownBlock = some k_) (H.row 4 rfl) (fun _ hk_ _ => .inl hk_) (fun _ hk_ => .inr hk_)) (msg_encR hr hb)) rfl rfl ?_
   rintro _ w ⟨vr78, rfl, hm_, hr_⟩; refine ⟨_, rfl, ?_⟩; clear F; intro a F; have H := Hp.rowOut H 78 hm_ hr_; obtain ⟨Ar78, cr78, rfl⟩ := (H.row 78 rfl).form
   refine la F rfl (x_move (F.t 78 rfl)) fun a F => ?_
   refine la F rfl (x_extract (F.t 76 rfl) rfl) fun a F => ?_
   refine la F rfl (x_extract (F.t 76 rfl) rfl) fun a F => ?_
   refine la F rfl (x_assign (F.t 79 rfl)) fun a F => ?_
   refine la F rfl (x_assign (F.t 80 rfl)) fun a F => ?_
   refine wn (hK44 _ _ ?_)
   refine sr fun _ hK45 => ?_
   refine la F rfl (x_move (F.t 12 rfl)) fun a F => ?_
   refine lp rfl ?_
   refine w_call F (x_enter Tryz.func31 (by kernel_rfl) rfl (by simp only [bM, F.t 81 rfl] <;> rfl)) (Crc.sum_calls _ (Row.rd (ok' := fun k_ => (fun _ => False) k_ ∨ (.slice Ar78 (encI (msgF m)).length cr78 : Value).ownBlock = some k_) (H.row 78 rfl) (fun _ hk_ _ => .inl hk_) (fun _ hk_ => .inr hk_))) rfl rfl ?_
   rintro _ w ⟨rfl, hm_⟩; refine ⟨_, rfl, ?_⟩; clear F; intro a F; have H := H.same hm_
   refine la F rfl (x_assign (F.t 82 rfl)) fun a F => ?_
   refine wn (hK45 _ _ ?_)
   refine sr fun _ hK46 => ?_
   refine la F rfl (x_move (F.t 12 rfl)) fun a F => ?_
   refine la F rfl (x_move (F.t 14 rfl)) fun a F => ?_
   refine la F rfl (x_conv Tryz.underlying5 ⟨_, Tryz.underlying69⟩ (F.t 84 rfl) (IntKind.wrap_u8 _)) fun a F => ?_
   refine la F rfl (x_move (F.t 14 rfl)) fun a F => ?_
   refine la F rfl (x_shr (F.t 86 rfl) rfl (by omega) (shrU _).1) fun a F => ?_
   refine la F rfl (x_conv Tryz.underlying5 ⟨_, Tryz.underlying69⟩ (F.t 87 rfl) (IntKind.wrap_u8 _)) fun a F => ?_
   refine la F rfl (x_move (F.t 14 rfl)) fun a F => ?_
   refine la F rfl (x_shr (F.t 89 rfl) rfl (by omega) (shrU _).2.1) fun a F => ?_
   refine la F rfl (x_conv Tryz.underlying5 ⟨_, Tryz.underlying69⟩ (F.t 90 rfl) (IntKind.wrap_u8 _)) fun a F => ?_
   refine la F rfl (x_move (F.t 14 rfl)) fun a F => ?_
   refine la F rfl (x_shr (F.t 92 rfl) rfl (by omega) (shrU _).2.2) fun a F => ?_
   refine la F rfl (x_conv Tryz.underlying5 ⟨_, Tryz.underlying69⟩ (F.t 93 rfl) (IntKind.wrap_u8 _)) fun a F => ?_
   refine lp rfl ?_
   refine w_lit 95 (enc := Value.int .u8) (h1 := fun _ => rfl) (le4 (Crc.moreI 0 (encI (msgF m)))) F H rfl Tryz.underlying27 ty5 (by simp only [bM, F.t 85 rfl, F.t 88 rfl, F.t 91 rfl, F.t 94 rfl]; rfl) rfl (by decide) (by decide) (by kernel_rfl) ?_
   clear F H; intro a w b95 F H
   refine lp rfl ?_
   refine w_append 78 95 (xs := (encI (msgF m))) (ys := (le4 (Crc.moreI 0 (encI (msgF m))))) F H rfl Tryz.underlying27 ty5 rfl rfl rfl rfl (Row.rd (ok' := fun k_ => (fun _ => False) k_ ∨ (.slice (some ⟨b95, 0, none⟩) ((le4 (Crc.moreI 0 (encI (msgF m))))).length ((le4 (Crc.moreI 0 (encI (msgF m))))).length : Value).ownBlock = some k_) (H.row 95 rfl) (fun _ hk_ _ => .inl hk_) (fun _ hk_ => .inr hk_)) (by rintro k_ (hk_ | hk_); exact .inr hk_; exact .inl hk_) (F.t 83 rfl) (F.t 95 rfl) (by have := msgI_len hr hb; simp only [le4, List.length_cons, List.length_nil]; omega) (by have := msgI_len hr hb; simp only [le4, List.length_cons, List.length_nil, maxLen]; omega) (fun _ => False) (fun w' v' h => row_flat h _) (fun k_ hk_ => hk_.elim) ?_
   clear F H; intro a w v96 F H
   refine la F rfl (x_move (F.t 13 rfl)) fun a F => ?_
   refine la F rfl (x_assign (F.t 96 rfl)) fun a F => ?_
   refine la F rfl (x_assign (F.t 97 rfl)) fun a F => ?_
   refine wn (hK46 _ _ ?_)
   refine wp_ret ?_
   try simp only [Exit.then, Exit.inBlock]
   rw [encM_yes hr] at H
   exact fin_ret F (res2 F rfl rfl rfl) ⟨_, by rw [encME_yes hr] <;> rfl, H.mods, Hp.out H 78 rfl⟩
  have hk37_14 := hc37; try simp only [bL] at hc37
  refine wp_skip ?_
  refine hK28 _ _ ?_
  refine sr fun _ hK47 => ?_
  obtain ⟨fs, hfs⟩ : ∃ fs, fs = [((1, [m.kind, m.src, m.dst]) : Fld), ((2, bI m.tx) : Fld)] := ⟨_, rfl⟩
  rw [← hfs] at H F
  have hfs2 : fs = msgF m := hfs.trans (msgF_0 hc37)
  subst hfs2
  refine la F rfl (x_move (F.t 4 rfl)) fun a F => ?_
  refine lp rfl ?_
  refine w_call F (x_enter Tryz.func30 (by kernel_rfl) rfl (by simp only [bM, F.t 77 rfl] <;> rfl)) (enc_at (Row.rd (ok' := fun k_ => (fun kb => (fun kb => (Value.slice (some ⟨b27, 0, none⟩) ([m.kind, m.src, m.dst]).length ([m.kind, m.src, m.dst]).length).ownBlock = some kb) kb ∨ (fun kb => (Value.slice Ar32 (bI m.tx).length cr32).ownBlock = some kb) kb) k_ ∨ (.slice (some ⟨b34, 0, none⟩) (msgF m).length (msgF m).length : Value).ownBlock = some k_) (H.row 4 rfl) (fun _ hk_ _ => .inl hk_) (fun _ hk_ => .inr hk_)) (msg_encR hr hb)) rfl rfl ?_
  rintro _ w ⟨vr78, rfl, hm_, hr_⟩; refine ⟨_, rfl, ?_⟩; clear F; intro a F; have H := Hp.rowOut H 78 hm_ hr_; obtain ⟨Ar78, cr78, rfl⟩ := (H.row 78 rfl).form
  refine la F rfl (x_move (F.t 78 rfl)) fun a F => ?_
  refine la F rfl (x_extract (F.t 76 rfl) rfl) fun a F => ?_
  refine la F rfl (x_extract (F.t 76 rfl) rfl) fun a F => ?_
  refine la F rfl (x_assign (F.t 79 rfl)) fun a F => ?_
  refine la F rfl (x_assign (F.t 80 rfl)) fun a F => ?_
  refine wn (hK47 _ _ ?_)
  refine sr fun _ hK48 => ?_
  refine la F rfl (x_move (F.t 12 rfl)) fun a F => ?_
  refine lp rfl ?_
  refine w_call F (x_enter Tryz.func31 (by kernel_rfl) rfl (by simp only [bM, F.t 81 rfl] <;> rfl)) (Crc.sum_calls _ (Row.rd (ok' := fun k_ => (fun _ => False) k_ ∨ (.slice Ar78 (encI (msgF m)).length cr78 : Value).ownBlock = some k_) (H.row 78 rfl) (fun _ hk_ _ => .inl hk_) (fun _ hk_ => .inr hk_))) rfl rfl ?_
  rintro _ w ⟨rfl, hm_⟩; refine ⟨_, rfl, ?_⟩; clear F; intro a F; have H := H.same hm_
  refine la F rfl (x_assign (F.t 82 rfl)) fun a F => ?_
  refine wn (hK48 _ _ ?_)
  refine sr fun _ hK49 => ?_
  refine la F rfl (x_move (F.t 12 rfl)) fun a F => ?_
  refine la F rfl (x_move (F.t 14 rfl)) fun a F => ?_
  refine la F rfl (x_conv Tryz.underlying5 ⟨_, Tryz.underlying69⟩ (F.t 84 rfl) (IntKind.wrap_u8 _)) fun a F => ?_
  refine la F rfl (x_move (F.t 14 rfl)) fun a F => ?_
  refine la F rfl (x_shr (F.t 86 rfl) rfl (by omega) (shrU _).1) fun a F => ?_
  refine la F rfl (x_conv Tryz.underlying5 ⟨_, Tryz.underlying69⟩ (F.t 87 rfl) (IntKind.wrap_u8 _)) fun a F => ?_
  refine la F rfl (x_move (F.t 14 rfl)) fun a F => ?_
  refine la F rfl (x_shr (F.t 89 rfl) rfl (by omega) (shrU _).2.1) fun a F => ?_
  refine la F rfl (x_conv Tryz.underlying5 ⟨_, Tryz.underlying69⟩ (F.t 90 rfl) (IntKind.wrap_u8 _)) fun a F => ?_
  refine la F rfl (x_move (F.t 14 rfl)) fun a F => ?_
  refine la F rfl (x_shr (F.t 92 rfl) rfl (by omega) (shrU _).2.2) fun a F => ?_
  refine la F rfl (x_conv Tryz.underlying5 ⟨_, Tryz.underlying69⟩ (F.t 93 rfl) (IntKind.wrap_u8 _)) fun a F => ?_
  refine lp rfl ?_
  refine w_lit 95 (enc := Value.int .u8) (h1 := fun _ => rfl) (le4 (Crc.moreI 0 (encI (msgF m)))) F H rfl Tryz.underlying27 ty5 (by simp only [bM, F.t 85 rfl, F.t 88 rfl, F.t 91 rfl, F.t 94 rfl]; rfl) rfl (by decide) (by decide) (by kernel_rfl) ?_
  clear F H; intro a w b95 F H
  refine lp rfl ?_
  refine w_append 78 95 (xs := (encI (msgF m))) (ys := (le4 (Crc.moreI 0 (encI (msgF m))))) F H rfl Tryz.underlying27 ty5 rfl rfl rfl rfl (Row.rd (ok' := fun k_ => (fun _ => False) k_ ∨ (.slice (some ⟨b95, 0, none⟩) ((le4 (Crc.moreI 0 (encI (msgF m))))).length ((le4 (Crc.moreI 0 (encI (msgF m))))).length : Value).ownBlock = some k_) (H.row 95 rfl) (fun _ hk_ _ => .inl hk_) (fun _ hk_ => .inr hk_)) (by rintro k_ (hk_ | hk_); exact .inr hk_; exact .inl hk_) (F.t 83 rfl) (F.t 95 rfl) (by have := msgI_len hr hb; simp only [le4, List.length_cons, List.length_nil]; omega) (by have := msgI_len hr hb; simp only [le4, List.length_cons, List.length_nil, maxLen]; omega) (fun _ => False) (fun w' v' h => row_flat h _) (fun k_ hk_ => hk_.elim) ?_
  clear F H; intro a w v96 F H
  refine la F rfl (x_move (F.t 13 rfl)) fun a F => ?_
  refine la F rfl (x_assign (F.t 96 rfl)) fun a F => ?_
  refine la F rfl (x_assign (F.t 97 rfl)) fun a F => ?_
  refine wn (hK49 _ _ ?_)
  refine wp_ret ?_
  try simp only [Exit.then, Exit.inBlock]
  rw [encM_yes hr] at H
  exact fin_ret F (res2 F rfl rfl rfl) ⟨_, by rw [encME_yes hr] <;> rfl, H.mods, Hp.out H 78 rfl⟩
end Go.Proofs.YtiiklnghnifmjaaGreatDoor.Act
