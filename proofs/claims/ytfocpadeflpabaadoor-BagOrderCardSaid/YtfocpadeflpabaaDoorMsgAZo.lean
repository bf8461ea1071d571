/- The walks of messages. -/
import Derived.Test.YtfocpadeflpabaaDoorChgAZo
import Derived.Test.YtfocpadeflpabaaDoorCrcXZo
set_option linter.unusedVariables false
set_option linter.unusedSimpArgs false
namespace Go.Proofs.YtfocpadeflpabaaDoor.Act
open Go.RowKit Go.Proofs.YtfocpadeflpabaaDoor.Sx Go.Proofs.YtfocpadeflpabaaDoor.Cod Go.Proofs.YtfocpadeflpabaaDoor.Num
theorem ty26 : TyI Tryd.prog 26 (.int .i64 0) 1 8 false := ⟨by kernel_rfl, _, Tryd.underlying26, rfl⟩
theorem ty27 : TyI Tryd.prog 27 (.slice none 0 0) 1 24 false := ⟨by kernel_rfl, _, Tryd.underlying27, rfl⟩
theorem ty28 : TyI Tryd.prog 28 (.slice none 0 0) 1 24 false := ⟨by kernel_rfl, _, Tryd.underlying28, rfl⟩
theorem ty30 : TyI Tryd.prog 30 (.agg #[.int .i64 0, .int .i64 0, .int .i64 0, .int .i64 0, .slice none 0 0, .slice none 0 0]) 6 80 true := ⟨by kernel_rfl, _, Tryd.underlying30, rfl⟩
set_option maxRecDepth 100000 in
set_option maxHeartbeats 1000000 in
theorem node_calls (w0 : World) (n : Int) : Calls Tryd.prog 39 #[.int .i64 n] w0 fun e w' => e = .returned (.bool (nodeI n)) ∧ Mods (fun _ => False) w0 w' := by
 refine calls_of_wp Tryd.func39 rfl ?_
 have hF := Fr.enter #[.int .i64 n] 9 (slotsOf [.int .i64 n] 0) (Nat.le_of_ble_eq_true rfl) (fun i v h => by have h2 := (get_slotsOf _ 0 i v h).2; simpa only [List.getElem?_toArray, Nat.sub_zero] using h2)
 have hH := Hp.nil (fun _ => False) w0
 rw [Tryd.ntmps39]
 revert hF; generalize (⟨(#[.int .i64 n] : Array Value) ++ Array.replicate (9 - (#[.int .i64 n] : Array Value).size) undef, []⟩ : Act) = a; intro hF
 refine wp_seq_k fun khK1 hK1 => ?_
 refine wp_region_lit ?_
 refine l_at hF rfl rfl rfl (x_assign rfl) ?_; clear hF; intro a hF
 refine wpList_nil ?_
 refine hK1 _ _ ?_
 refine wp_seq_k fun khK2 hK2 => ?_
 refine wp_region_lit ?_
 refine l_at hF rfl rfl rfl (x_move (hF.tmp 0 rfl)) ?_; clear hF; intro a hF
 refine l_at hF rfl rfl rfl (x_geq (hF.tmp 3 rfl) rfl) ?_; clear hF; intro a hF
 refine l_at hF rfl rfl rfl (x_move (hF.tmp 4 rfl)) ?_; clear hF; intro a hF
 refine split_bool hF 5 rfl (fun hb5 => ?_) (fun hb5 => ?_)
 ·have hc5 := hb5; try simp only [Bool.or_eq_true, Bool.and_eq_true, Bool.or_eq_false_iff, Bool.and_eq_false_iff, Bool.not_eq_true', Bool.not_eq_false', decide_eq_true_eq, decide_eq_false_iff_not, Bool.not_true, Bool.not_false] at hc5
  refine l_atg hF ((wanted_of hF rfl rfl rfl rfl).trans (by rw [hb5]; rfl)) rfl rfl (x_move (hF.tmp 0 rfl)) ?_; clear hF; intro a hF
  refine l_atg hF ((wanted_of hF rfl rfl rfl rfl).trans (by rw [hb5]; rfl)) rfl rfl (x_lss (hF.tmp 6 rfl) rfl) ?_; clear hF; intro a hF
  refine l_at hF rfl rfl rfl (x_pickT (hF.tmp 5 rfl) hb5 (hF.tmp 7 rfl)) ?_; clear hF; intro a hF
  refine l_at hF rfl rfl rfl (x_assign (hF.tmp 8 rfl)) ?_; clear hF; intro a hF
  refine wpList_nil ?_
  refine hK2 _ _ ?_
  refine wp_ret ?_
  try simp only [Exit.then, Exit.inBlock]
  refine fin_ret hF (res1 (v := .bool (decide (n < 8))) hF rfl rfl) ⟨?_, hH.mods⟩
  congr 2; unfold nodeI; first | (simp [hc5]; done) | (simp [hc5]; omega) | (simp [hc5]; intros; omega) | (rw [Bool.eq_iff_iff]; simp [hc5]; first | omega | (intros; omega))
 ·have hc5 := hb5; try simp only [Bool.or_eq_true, Bool.and_eq_true, Bool.or_eq_false_iff, Bool.and_eq_false_iff, Bool.not_eq_true', Bool.not_eq_false', decide_eq_true_eq, decide_eq_false_iff_not, Bool.not_true, Bool.not_false] at hc5
  refine l_offg hF ((wanted_of hF rfl rfl rfl rfl).trans (by rw [hb5]; rfl)) rfl rfl ?_; clear hF; intro a hF
  refine l_offg hF ((wanted_of hF rfl rfl rfl rfl).trans (by rw [hb5]; rfl)) rfl rfl ?_; clear hF; intro a hF
  refine l_at hF rfl rfl rfl (x_pickF (hF.tmp 5 rfl) hb5 rfl) ?_; clear hF; intro a hF
  refine l_at hF rfl rfl rfl (x_assign (hF.tmp 8 rfl)) ?_; clear hF; intro a hF
  refine wpList_nil ?_
  refine hK2 _ _ ?_
  refine wp_ret ?_
  try simp only [Exit.then, Exit.inBlock]
  refine fin_ret hF (res1 (v := .bool false) hF rfl rfl) ⟨?_, hH.mods⟩
  congr 2; unfold nodeI; first | (simp [hc5]; done) | (simp [hc5]; omega) | (simp [hc5]; intros; omega) | (rw [Bool.eq_iff_iff]; simp [hc5]; first | omega | (intros; omega))
set_option maxRecDepth 100000 in
set_option maxHeartbeats 1000000 in
theorem nodes1_calls (w0 : World) {bl : Nat} {last : Int} (hbl : w0.heap[bl]? = some (.cells #[.int .i64 last] 3 (0, 0))) (n : Int) : Calls Tryd.prog 56 #[.int .i64 n, .pointer (some ⟨bl, 0, none⟩)] w0 fun e w' => e = .returned (.bool (!(decide (last < n) && nodeI n))) ∧ Mods (fun k => k = bl) w0 w' ∧ w'.heap[bl]? = some (.cells #[.int .i64 n] 3 (0, 0)) := by
 refine calls_of_wp Tryd.func56 rfl ?_
 have hF := Fr.enter #[.int .i64 n, .pointer (some ⟨bl, 0, none⟩)] 15 (slotsOf [.int .i64 n, .pointer (some ⟨bl, 0, none⟩)] 0) (Nat.le_of_ble_eq_true rfl) (fun i v h => by have h2 := (get_slotsOf _ 0 i v h).2; simpa only [List.getElem?_toArray, Nat.sub_zero] using h2)
 rw [Tryd.ntmps56]
 revert hF; generalize (⟨(#[.int .i64 n, .pointer (some ⟨bl, 0, none⟩)] : Array Value) ++ Array.replicate (15 - (#[.int .i64 n, .pointer (some ⟨bl, 0, none⟩)] : Array Value).size) undef, []⟩ : Act) = a; intro hF
 have hH := Hp.ownblk 1 hbl
 refine wp_seq_k fun khK1 hK1 => ?_
 refine wp_region_lit ?_
 refine l_at hF rfl rfl rfl (x_assign rfl) ?_; clear hF; intro a hF
 refine wpList_nil ?_
 refine hK1 _ _ ?_
 refine wp_seq_k fun khK2 hK2 => ?_
 refine wp_region_lit ?_
 refine l_at hF rfl rfl rfl (x_move (hF.tmp 0 rfl)) ?_; clear hF; intro a hF
 refine l_at hF rfl rfl rfl (x_load1 ty3 (hF.tmp 1 rfl) (blk_cell (hH.at 1 rfl) 0 rfl)) ?_; clear hF; intro a hF
 refine l_at hF rfl rfl rfl (x_leq (hF.tmp 5 rfl) (hF.tmp 6 rfl)) ?_; clear hF; intro a hF
 refine l_at hF rfl rfl rfl (x_move (hF.tmp 7 rfl)) ?_; clear hF; intro a hF
 refine split_bool hF 8 rfl (fun hb8 => ?_) (fun hb8 => ?_)
 ·have hc8 := hb8; try simp only [Bool.or_eq_true, Bool.and_eq_true, Bool.or_eq_false_iff, Bool.and_eq_false_iff, Bool.not_eq_true', Bool.not_eq_false', decide_eq_true_eq, decide_eq_false_iff_not, Bool.not_true, Bool.not_false] at hc8
  refine l_offg hF ((wanted_of hF rfl rfl rfl rfl).trans (by rw [hb8]; rfl)) rfl rfl ?_; clear hF; intro a hF
  refine l_offg hF ((wanted_of hF rfl rfl rfl rfl).trans (by rw [hb8]; rfl)) rfl rfl ?_; clear hF; intro a hF
  refine l_offg hF ((wanted_of hF rfl rfl rfl rfl).trans (by rw [hb8]; rfl)) rfl rfl ?_; clear hF; intro a hF
  refine l_at hF rfl rfl rfl (x_pickT (hF.tmp 8 rfl) hb8 rfl) ?_; clear hF; intro a hF
  refine l_at hF rfl rfl rfl (x_assign (hF.tmp 12 rfl)) ?_; clear hF; intro a hF
  refine wpList_nil ?_
  refine hK2 _ _ ?_
  refine wp_seq_k fun khK3 hK3 => ?_
  refine wp_region_lit ?_
  refine l_at hF rfl rfl rfl (x_move (hF.tmp 0 rfl)) ?_; clear hF; intro a hF
  refine wpList_plain rfl fun K hK => ?_
  refine w_store 1 hH ty3 rfl (hF.tmp 1 rfl) (hF.tmp 13 rfl) rfl (one1 rfl rfl) (by first | decide | exact Nat.le_of_ble_eq_true rfl) ?_
  clear hH; intro w hH
  refine hK _ _ ?_; clear hK K
  refine wpList_nil ?_
  refine hK3 _ _ ?_
  refine wp_seq_k fun khK4 hK4 => ?_
  refine wp_region_lit ?_
  refine l_at hF rfl rfl rfl (x_move (hF.tmp 4 rfl)) ?_; clear hF; intro a hF
  refine l_at hF rfl rfl rfl (x_assign (hF.tmp 14 rfl)) ?_; clear hF; intro a hF
  refine wpList_nil ?_
  refine hK4 _ _ ?_
  refine wp_ret ?_
  try simp only [Exit.then, Exit.inBlock]
  have hv : true = !(decide (last < n) && nodeI n) := by rw [Bool.eq_iff_iff]; simp [hc8]; try omega
  exact fin_ret hF (res1 (v := .bool true) hF rfl rfl) ⟨by rw [hv], hH.mods, hH.at 1 rfl⟩
 ·have hc8 := hb8; try simp only [Bool.or_eq_true, Bool.and_eq_true, Bool.or_eq_false_iff, Bool.and_eq_false_iff, Bool.not_eq_true', Bool.not_eq_false', decide_eq_true_eq, decide_eq_false_iff_not, Bool.not_true, Bool.not_false] at hc8
  refine l_atg hF ((wanted_of hF rfl rfl rfl rfl).trans (by rw [hb8]; rfl)) rfl rfl (x_move (hF.tmp 0 rfl)) ?_; clear hF; intro a hF
  refine wpList_on ((wanted_of hF rfl rfl rfl rfl).trans (by rw [hb8]; rfl)) fun K hK => ?_
  refine w_call hF (x_enter Tryd.func39 (by kernel_rfl) rfl (by simp only [List.map_toArray, List.map_cons, List.map_nil, hF.tmp 9 rfl] <;> rfl)) (node_calls _ n) rfl rfl ?_
  rintro _ w ⟨rfl, hm_⟩; refine ⟨_, rfl, ?_⟩; clear hF; intro a hF; have hH := hH.same hm_
  refine hK _ _ ?_; clear hK K
  refine l_atg hF ((wanted_of hF rfl rfl rfl rfl).trans (by rw [hb8]; rfl)) rfl rfl (x_not (hF.tmp 10 rfl)) ?_; clear hF; intro a hF
  refine l_at hF rfl rfl rfl (x_pickF (hF.tmp 8 rfl) hb8 (hF.tmp 11 rfl)) ?_; clear hF; intro a hF
  refine l_at hF rfl rfl rfl (x_assign (hF.tmp 12 rfl)) ?_; clear hF; intro a hF
  refine wpList_nil ?_
  refine hK2 _ _ ?_
  refine wp_seq_k fun khK5 hK5 => ?_
  refine wp_region_lit ?_
  refine l_at hF rfl rfl rfl (x_move (hF.tmp 0 rfl)) ?_; clear hF; intro a hF
  refine wpList_plain rfl fun K hK => ?_
  refine w_store 1 hH ty3 rfl (hF.tmp 1 rfl) (hF.tmp 13 rfl) rfl (one1 rfl rfl) (by first | decide | exact Nat.le_of_ble_eq_true rfl) ?_
  clear hH; intro w hH
  refine hK _ _ ?_; clear hK K
  refine wpList_nil ?_
  refine hK5 _ _ ?_
  refine wp_seq_k fun khK6 hK6 => ?_
  refine wp_region_lit ?_
  refine l_at hF rfl rfl rfl (x_move (hF.tmp 4 rfl)) ?_; clear hF; intro a hF
  refine l_at hF rfl rfl rfl (x_assign (hF.tmp 14 rfl)) ?_; clear hF; intro a hF
  refine wpList_nil ?_
  refine hK6 _ _ ?_
  refine wp_ret ?_
  try simp only [Exit.then, Exit.inBlock]
  have hv : (!(nodeI n)) = !(decide (last < n) && nodeI n) := by rw [Bool.eq_iff_iff]; simp [hc8]; try omega
  exact fin_ret hF (res1 (v := .bool (!(nodeI n))) hF rfl rfl) ⟨by rw [hv], hH.mods, hH.at 1 rfl⟩
set_option maxRecDepth 100000 in
set_option maxHeartbeats 1000000 in
theorem index_calls (w0 : World) {ok : Nat → Prop} {A : Option Addr} {xs : List Int} {c : Nat} (hr : Rd (.int .i64) w0 ok A xs c) (v : Int) : Calls Tryd.prog 66 #[.slice A xs.length c, .int .i64 v] w0 fun e w' => ∃ i, e = .returned (.int .i64 i) ∧ decide ((0 : Int) ≤ i) = decide (v ∈ xs) ∧ Mods (fun _ => False) w0 w' := by
 refine calls_of_wp Tryd.func66 rfl ?_
 have hF := Fr.enter #[.slice A xs.length c, .int .i64 v] 19 (slotsOf [.slice A xs.length c, .int .i64 v] 0) (Nat.le_of_ble_eq_true rfl) (fun i v h => by have h2 := (get_slotsOf _ 0 i v h).2; simpa only [List.getElem?_toArray, Nat.sub_zero] using h2)
 have hH := Hp.nil (fun _ => False) w0
 rw [Tryd.ntmps66]
 revert hF; generalize (⟨(#[.slice A xs.length c, .int .i64 v] : Array Value) ++ Array.replicate (19 - (#[.slice A xs.length c, .int .i64 v] : Array Value).size) undef, []⟩ : Act) = a; intro hF
 have hH := hH.arg 901 hr.all (fun _ h => ⟨h, fun h => h⟩)
 have hle901 := hr.le; unfold maxLen at hle901
 refine wp_seq_k fun khK1 hK1 => ?_
 refine wp_region_lit ?_
 refine l_at hF rfl rfl rfl (x_assign rfl) ?_; clear hF; intro a hF
 refine wpList_nil ?_
 refine hK1 _ _ ?_
 refine wp_seq_k fun khK2 hK2 => ?_
 refine wp_seq_k fun khK3 hK3 => ?_
 refine wp_region_lit ?_
 refine l_at hF rfl rfl rfl (x_move (hF.tmp 0 rfl)) ?_; clear hF; intro a hF
 refine l_at hF rfl rfl rfl (x_len_slice Tryd.underlying27 (hF.tmp 6 rfl)) ?_; clear hF; intro a hF
 refine l_at hF rfl rfl rfl (x_move rfl) ?_; clear hF; intro a hF
 refine wpList_nil ?_
 refine hK3 _ _ ?_
 refine wp_block ?_
 refine wp_loop_ghost (fun n_ a w => ∃ k : Nat, n_ = xs.length - k ∧ (k ≤ xs.length) ∧ (∀ j, j < k → ¬ v = gi xs (j : Int)) ∧ Fr 19 a [(0, .slice A xs.length c), (1, .int .i64 v), (7, .int .i64 (xs.length : Int)), (8, .int .i64 (k : Int))] ∧ Hp (fun _ => False) w0 w [(901, .rd_ (.int .i64) A xs c (fun k => k < w0.heap.size))]) (xs.length) ?_ ?_
 ·exact ⟨0, rfl, by omega, fun j hj => by omega, ((((hF.bare.add hF 8 rfl).add hF 7 rfl).add hF 1 rfl).add hF 0 rfl), hH.sub _ (sub_cons (sub_nil _) 901 rfl)⟩
 ·rintro _ a w ⟨k, rfl, hq0_0, hq0_1, hF, hH⟩
  refine wp_seq_k fun khK4 hK4 => ?_
  refine wp_region_lit ?_
  refine l_at hF rfl rfl rfl (x_lss (hF.tmp 8 rfl) (hF.tmp 7 rfl)) ?_; clear hF; intro a hF
  refine wpList_nil ?_
  refine hK4 _ _ ?_
  refine wp_seq_k fun khK5 hK5 => ?_
  refine wp_cond_split (hF.tmp 9 rfl) (fun hc9 => ?_) (fun hc9 => ?_)
  ·have hk9_1 := hc9; try simp only [Bool.or_eq_true, Bool.and_eq_true, Bool.or_eq_false_iff, Bool.and_eq_false_iff, Bool.not_eq_true', Bool.not_eq_false', decide_eq_true_eq, decide_eq_false_iff_not, Bool.not_true, Bool.not_false] at hc9
   refine wp_skip ?_
   refine hK5 _ _ ?_
   refine wp_seq_k fun khK6 hK6 => ?_
   refine wp_block ?_
   refine wp_seq_k fun khK7 hK7 => ?_
   refine wp_region_lit ?_
   refine l_at hF rfl rfl rfl (x_move (hF.tmp 8 rfl)) ?_; clear hF; intro a hF
   refine l_at hF rfl rfl rfl (x_assign (hF.tmp 10 rfl)) ?_; clear hF; intro a hF
   refine wpList_nil ?_
   refine hK7 _ _ ?_
   refine wp_seq_k fun khK8 hK8 => ?_
   refine wp_region_lit ?_
   refine l_at hF rfl rfl rfl (x_move (hF.tmp 1 rfl)) ?_; clear hF; intro a hF
   refine l_at hF rfl rfl rfl (x_move (hF.tmp 0 rfl)) ?_; clear hF; intro a hF
   refine l_at hF rfl rfl rfl (x_move (hF.tmp 5 rfl)) ?_; clear hF; intro a hF
   refine l_at hF rfl rfl rfl (x_iaddr_A Tryd.underlying27 ty3 ((hH.rd 901 rfl)) (hF.tmp 12 rfl) (hF.tmp 13 rfl) (by omega) (by omega) _) ?_; clear hF; intro a hF
   refine l_at hF rfl rfl rfl (x_load1 ty3 (hF.tmp 14 rfl) (((hH.rd 901 rfl)).cellA (gi_some (i := (k : Int)) (by omega) (by omega)))) ?_; clear hF; intro a hF
   refine l_at hF rfl rfl rfl (x_eql (hF.tmp 11 rfl) (hF.tmp 15 rfl)) ?_; clear hF; intro a hF
   refine wpList_nil ?_
   refine hK8 _ _ ?_
   refine wp_cond_split (hF.tmp 16 rfl) (fun hc16 => ?_) (fun hc16 => ?_)
   ·have hk16_2 := hc16; try simp only [Bool.or_eq_true, Bool.and_eq_true, Bool.or_eq_false_iff, Bool.and_eq_false_iff, Bool.not_eq_true', Bool.not_eq_false', decide_eq_true_eq, decide_eq_false_iff_not, Bool.not_true, Bool.not_false] at hc16
    have hz := idx_yes hc9 hc16
    refine wp_seq_k fun khK9 hK9 => ?_
    refine wp_region_lit ?_
    refine l_at hF rfl rfl rfl (x_move (hF.tmp 5 rfl)) ?_; clear hF; intro a hF
    refine l_at hF rfl rfl rfl (x_assign (hF.tmp 17 rfl)) ?_; clear hF; intro a hF
    refine wpList_nil ?_
    refine hK9 _ _ ?_
    refine wp_ret ?_
    try simp only [Exit.then, Exit.inBlock]
    exact fin_ret hF (res1 hF rfl rfl) ⟨_, rfl, hz, hH.mods⟩
   ·have hk16_3 := hc16; try simp only [Bool.or_eq_true, Bool.and_eq_true, Bool.or_eq_false_iff, Bool.and_eq_false_iff, Bool.not_eq_true', Bool.not_eq_false', decide_eq_true_eq, decide_eq_false_iff_not, Bool.not_true, Bool.not_false] at hc16
    refine wp_skip ?_
    refine hK6 _ _ ?_
    refine wp_region_lit ?_
    refine l_at hF rfl rfl rfl (x_add (hF.tmp 8 rfl) rfl (w64 (by omega) (by omega))) ?_; clear hF; intro a hF
    refine l_at hF rfl rfl rfl (x_move (hF.tmp 18 rfl)) ?_; clear hF; intro a hF
    refine wpList_nil ?_
    exact ⟨_, by omega, ⟨k + 1, rfl, by omega, idx_step hq0_1 hc16, ((((hF.bare.add hF 8 rfl).add hF 7 rfl).add hF 1 rfl).add hF 0 rfl), hH.sub _ (sub_cons (sub_nil _) 901 rfl)⟩⟩
  ·have hk9_4 := hc9; try simp only [Bool.or_eq_true, Bool.and_eq_true, Bool.or_eq_false_iff, Bool.and_eq_false_iff, Bool.not_eq_true', Bool.not_eq_false', decide_eq_true_eq, decide_eq_false_iff_not, Bool.not_true, Bool.not_false] at hc9
   obtain rfl : k = xs.length := by omega
   have hz := idx_no hq0_1
   refine wp_exit ?_
   refine hK2 _ _ ?_
   refine wp_seq_k fun khK10 hK10 => ?_
   refine wp_region_lit ?_
   refine l_at hF rfl rfl rfl (x_assign rfl) ?_; clear hF; intro a hF
   refine wpList_nil ?_
   refine hK10 _ _ ?_
   refine wp_ret ?_
   try simp only [Exit.then, Exit.inBlock]
   exact fin_ret hF (res1 hF rfl rfl) ⟨_, rfl, hz, hH.mods⟩
set_option maxRecDepth 100000 in
set_option maxHeartbeats 1000000 in
theorem contains_calls (w0 : World) {ok : Nat → Prop} {A : Option Addr} {xs : List Int} {c : Nat} (hr : Rd (.int .i64) w0 ok A xs c) (v : Int) : Calls Tryd.prog 54 #[.slice A xs.length c, .int .i64 v] w0 fun e w' => e = .returned (.bool (decide (v ∈ xs))) ∧ Mods (fun _ => False) w0 w' := by
 refine calls_of_wp Tryd.func54 rfl ?_
 have hF := Fr.enter #[.slice A xs.length c, .int .i64 v] 9 (slotsOf [.slice A xs.length c, .int .i64 v] 0) (Nat.le_of_ble_eq_true rfl) (fun i v h => by have h2 := (get_slotsOf _ 0 i v h).2; simpa only [List.getElem?_toArray, Nat.sub_zero] using h2)
 have hH := Hp.nil (fun _ => False) w0
 rw [Tryd.ntmps54]
 revert hF; generalize (⟨(#[.slice A xs.length c, .int .i64 v] : Array Value) ++ Array.replicate (9 - (#[.slice A xs.length c, .int .i64 v] : Array Value).size) undef, []⟩ : Act) = a; intro hF
 have hH := hH.arg 901 hr.all (fun _ h => ⟨h, fun h => h⟩)
 have hle901 := hr.le; unfold maxLen at hle901
 refine wp_seq_k fun khK1 hK1 => ?_
 refine wp_region_lit ?_
 refine l_at hF rfl rfl rfl (x_assign rfl) ?_; clear hF; intro a hF
 refine wpList_nil ?_
 refine hK1 _ _ ?_
 refine wp_seq_k fun khK2 hK2 => ?_
 refine wp_region_lit ?_
 refine l_at hF rfl rfl rfl (x_move (hF.tmp 0 rfl)) ?_; clear hF; intro a hF
 refine l_at hF rfl rfl rfl (x_move (hF.tmp 1 rfl)) ?_; clear hF; intro a hF
 refine wpList_plain rfl fun K hK => ?_
 refine w_call hF (x_enter Tryd.func66 (by kernel_rfl) rfl (by simp only [List.map_toArray, List.map_cons, List.map_nil, hF.tmp 5 rfl, hF.tmp 6 rfl] <;> rfl)) (index_calls _ ((hH.rd 901 rfl)) v) rfl rfl ?_
 rintro _ w ⟨i_, rfl, hi_, hm_⟩; refine ⟨_, rfl, ?_⟩; clear hF; intro a hF; have hH := hH.same hm_
 refine hK _ _ ?_; clear hK K
 refine l_at hF rfl rfl rfl (x_geq (hF.tmp 7 rfl) rfl) ?_; clear hF; intro a hF
 refine l_at hF rfl rfl rfl (x_assign (hF.tmp 8 rfl)) ?_; clear hF; intro a hF
 refine wpList_nil ?_
 refine hK2 _ _ ?_
 refine wp_ret ?_
 try simp only [Exit.then, Exit.inBlock]
 exact fin_ret hF (res1 hF rfl rfl) ⟨by rw [← hi_] <;> rfl, hH.mods⟩
set_option maxRecDepth 100000 in
set_option maxHeartbeats 1000000 in
theorem indexN_calls (w0 : World) {bl : Nat} {last : Int} (hbl : w0.heap[bl]? = some (.cells #[.int .i64 last] 3 (0, 0))) {ok : Nat → Prop} {A : Option Addr} {xs : List Int} {c : Nat} (hr : Rd (.int .i64) w0 ok A xs c) (hok : ∀ k, ok k → k < w0.heap.size) (hne : ∀ k, ok k → ¬ k = bl) : Calls Tryd.prog 67 #[.slice A xs.length c, .func (.func 56) #[] #[.pointer (some ⟨bl, 0, none⟩)]] w0 fun e w' => ∃ i, e = .returned (.int .i64 i) ∧ decide ((0 : Int) ≤ i) = !nodesFrom last xs ∧ Mods (fun k => k = bl) w0 w' ∧ ∃ l', w'.heap[bl]? = some (.cells #[.int .i64 l'] 3 (0, 0)) := by
 refine calls_of_wp Tryd.func67 rfl ?_
 have hF := Fr.enter #[.slice A xs.length c, .func (.func 56) #[] #[.pointer (some ⟨bl, 0, none⟩)]] 19 (slotsOf [.slice A xs.length c, .func (.func 56) #[] #[.pointer (some ⟨bl, 0, none⟩)]] 0) (Nat.le_of_ble_eq_true rfl) (fun i v h => by have h2 := (get_slotsOf _ 0 i v h).2; simpa only [List.getElem?_toArray, Nat.sub_zero] using h2)
 rw [Tryd.ntmps67]
 revert hF; generalize (⟨(#[.slice A xs.length c, .func (.func 56) #[] #[.pointer (some ⟨bl, 0, none⟩)]] : Array Value) ++ Array.replicate (19 - (#[.slice A xs.length c, .func (.func 56) #[] #[.pointer (some ⟨bl, 0, none⟩)]] : Array Value).size) undef, []⟩ : Act) = a; intro hF
 have hH := Hp.ownblk 1 hbl
 have hH := hH.readable 901 hr hok (fun i X hX k hk hk2 => by rcases get_one hX with ⟨_, rfl⟩ | ⟨_, h⟩; exact hne k hk2 hk; simp [Sx.get] at h)
 have hle901 := hr.le; unfold maxLen at hle901
 refine wp_seq_k fun khK1 hK1 => ?_
 refine wp_region_lit ?_
 refine l_at hF rfl rfl rfl (x_assign rfl) ?_; clear hF; intro a hF
 refine wpList_nil ?_
 refine hK1 _ _ ?_
 refine wp_seq_k fun khK2 hK2 => ?_
 refine wp_seq_k fun khK3 hK3 => ?_
 refine wp_region_lit ?_
 refine l_at hF rfl rfl rfl (x_move (hF.tmp 0 rfl)) ?_; clear hF; intro a hF
 refine l_at hF rfl rfl rfl (x_len_slice Tryd.underlying27 (hF.tmp 6 rfl)) ?_; clear hF; intro a hF
 refine l_at hF rfl rfl rfl (x_move rfl) ?_; clear hF; intro a hF
 refine wpList_nil ?_
 refine hK3 _ _ ?_
 refine wp_block ?_
 refine wp_loop_ghost (fun n_ a w => ∃ k : Nat, ∃ l : Int, n_ = xs.length - k ∧ (k ≤ xs.length) ∧ (nodesFrom last xs = nodesFrom l (xs.drop k)) ∧ Fr 19 a [(0, .slice A xs.length c), (1, .func (.func 56) #[] #[.pointer (some ⟨bl, 0, none⟩)]), (7, .int .i64 (xs.length : Int)), (8, .int .i64 (k : Int))] ∧ Hp (fun k => k = bl) w0 w [(1, .blk bl (.cells #[.int .i64 l] 3 (0, 0))), (901, .rd_ (.int .i64) A xs c ok)]) (xs.length) ?_ ?_
 ·exact ⟨0, last, rfl, by omega, by rw [List.drop_zero], ((((hF.bare.add hF 8 rfl).add hF 7 rfl).add hF 1 rfl).add hF 0 rfl), hH.sub _ (sub_cons (sub_cons (sub_nil _) 901 rfl) 1 rfl)⟩
 ·rintro _ a w ⟨k, l, rfl, hq0_0, hq0_1, hF, hH⟩
  refine wp_seq_k fun khK4 hK4 => ?_
  refine wp_region_lit ?_
  refine l_at hF rfl rfl rfl (x_lss (hF.tmp 8 rfl) (hF.tmp 7 rfl)) ?_; clear hF; intro a hF
  refine wpList_nil ?_
  refine hK4 _ _ ?_
  refine wp_seq_k fun khK5 hK5 => ?_
  refine wp_cond_split (hF.tmp 9 rfl) (fun hc9 => ?_) (fun hc9 => ?_)
  ·have hk9_1 := hc9; try simp only [Bool.or_eq_true, Bool.and_eq_true, Bool.or_eq_false_iff, Bool.and_eq_false_iff, Bool.not_eq_true', Bool.not_eq_false', decide_eq_true_eq, decide_eq_false_iff_not, Bool.not_true, Bool.not_false] at hc9
   refine wp_skip ?_
   refine hK5 _ _ ?_
   refine wp_seq_k fun khK6 hK6 => ?_
   refine wp_block ?_
   refine wp_seq_k fun khK7 hK7 => ?_
   refine wp_region_lit ?_
   refine l_at hF rfl rfl rfl (x_move (hF.tmp 8 rfl)) ?_; clear hF; intro a hF
   refine l_at hF rfl rfl rfl (x_assign (hF.tmp 10 rfl)) ?_; clear hF; intro a hF
   refine wpList_nil ?_
   refine hK7 _ _ ?_
   refine wp_seq_k fun khK8 hK8 => ?_
   refine wp_region_lit ?_
   refine l_at hF rfl rfl rfl (x_move (hF.tmp 1 rfl)) ?_; clear hF; intro a hF
   refine l_at hF rfl rfl rfl (x_move (hF.tmp 0 rfl)) ?_; clear hF; intro a hF
   refine l_at hF rfl rfl rfl (x_move (hF.tmp 5 rfl)) ?_; clear hF; intro a hF
   refine l_at hF rfl rfl rfl (x_iaddr_A Tryd.underlying27 ty3 ((hH.rd 901 rfl)) (hF.tmp 12 rfl) (hF.tmp 13 rfl) (by omega) (by omega) _) ?_; clear hF; intro a hF
   refine l_at hF rfl rfl rfl (x_load1 ty3 (hF.tmp 14 rfl) (((hH.rd 901 rfl)).cellA (gi_some (i := (k : Int)) (by omega) (by omega)))) ?_; clear hF; intro a hF
   refine wpList_plain rfl fun K hK => ?_
   refine w_call hF (x_enterC (vs := #[.int .i64 (gi xs (k : Int))]) (caps := #[.pointer (some ⟨bl, 0, none⟩)]) (args := #[.int .i64 (gi xs (k : Int)), .pointer (some ⟨bl, 0, none⟩)]) Tryd.func56 (by kernel_rfl) rfl (hF.tmp 11 rfl) (by simp only [List.map_toArray, List.map_cons, List.map_nil, hF.tmp 15 rfl] <;> rfl) rfl) (nodes1_calls _ (hH.at 1 rfl) (gi xs (k : Int))) rfl rfl ?_
   rintro _ w ⟨rfl, hm_, hb_⟩; refine ⟨_, rfl, ?_⟩; clear hF; intro a hF; have hH := hH.put 1 rfl _ hm_ hb_
   refine hK _ _ ?_; clear hK K
   refine wpList_nil ?_
   refine hK8 _ _ ?_
   refine wp_cond_split (hF.tmp 16 rfl) (fun hc16 => ?_) (fun hc16 => ?_)
   ·have hk16_2 := hc16; try simp only [Bool.or_eq_true, Bool.and_eq_true, Bool.or_eq_false_iff, Bool.and_eq_false_iff, Bool.not_eq_true', Bool.not_eq_false', decide_eq_true_eq, decide_eq_false_iff_not, Bool.not_true, Bool.not_false] at hc16
    have hk16 := hk16_2
    have hfs := from_step hc9 hq0_1
    have hz : decide ((0 : Int) ≤ (k : Int)) = !nodesFrom last xs := by rw [decide_eq_true (by omega), hfs, show (decide (l < (gi xs (k : Int))) && nodeI (gi xs (k : Int))) = false from (by have h_ := hk16; simp only [Bool.not_eq_true'] at h_; exact h_)]; rfl
    refine wp_seq_k fun khK9 hK9 => ?_
    refine wp_region_lit ?_
    refine l_at hF rfl rfl rfl (x_move (hF.tmp 5 rfl)) ?_; clear hF; intro a hF
    refine l_at hF rfl rfl rfl (x_assign (hF.tmp 17 rfl)) ?_; clear hF; intro a hF
    refine wpList_nil ?_
    refine hK9 _ _ ?_
    refine wp_ret ?_
    try simp only [Exit.then, Exit.inBlock]
    exact fin_ret hF (res1 hF rfl rfl) ⟨_, rfl, hz, hH.mods, _, hH.at 1 rfl⟩
   ·have hk16_3 := hc16; try simp only [Bool.or_eq_true, Bool.and_eq_true, Bool.or_eq_false_iff, Bool.and_eq_false_iff, Bool.not_eq_true', Bool.not_eq_false', decide_eq_true_eq, decide_eq_false_iff_not, Bool.not_true, Bool.not_false] at hc16
    have hk16 := hk16_3
    have hnx : nodesFrom last xs = nodesFrom (gi xs (k : Int)) (xs.drop (k + 1)) := by rw [from_step hc9 hq0_1, show (decide (l < (gi xs (k : Int))) && nodeI (gi xs (k : Int))) = true by simpa using hk16]; rfl
    refine wp_skip ?_
    refine hK6 _ _ ?_
    refine wp_region_lit ?_
    refine l_at hF rfl rfl rfl (x_add (hF.tmp 8 rfl) rfl (w64 (by omega) (by omega))) ?_; clear hF; intro a hF
    refine l_at hF rfl rfl rfl (x_move (hF.tmp 18 rfl)) ?_; clear hF; intro a hF
    refine wpList_nil ?_
    exact ⟨_, by omega, ⟨k + 1, (gi xs (k : Int)), rfl, by omega, hnx, ((((hF.bare.add hF 8 rfl).add hF 7 rfl).add hF 1 rfl).add hF 0 rfl), hH.sub _ (sub_cons (sub_cons (sub_nil _) 901 rfl) 1 rfl)⟩⟩
  ·have hk9_4 := hc9; try simp only [Bool.or_eq_true, Bool.and_eq_true, Bool.or_eq_false_iff, Bool.and_eq_false_iff, Bool.not_eq_true', Bool.not_eq_false', decide_eq_true_eq, decide_eq_false_iff_not, Bool.not_true, Bool.not_false] at hc9
   obtain rfl : k = xs.length := by omega
   have hz : decide ((0 : Int) ≤ -1) = !nodesFrom last xs := by rw [hq0_1, List.drop_length]; rfl
   refine wp_exit ?_
   refine hK2 _ _ ?_
   refine wp_seq_k fun khK10 hK10 => ?_
   refine wp_region_lit ?_
   refine l_at hF rfl rfl rfl (x_assign rfl) ?_; clear hF; intro a hF
   refine wpList_nil ?_
   refine hK10 _ _ ?_
   refine wp_ret ?_
   try simp only [Exit.then, Exit.inBlock]
   exact fin_ret hF (res1 hF rfl rfl) ⟨_, rfl, hz, hH.mods, _, hH.at 1 rfl⟩
set_option maxRecDepth 100000 in
set_option maxHeartbeats 1000000 in
theorem containsN_calls (w0 : World) {bl : Nat} {last : Int} (hbl : w0.heap[bl]? = some (.cells #[.int .i64 last] 3 (0, 0))) {ok : Nat → Prop} {A : Option Addr} {xs : List Int} {c : Nat} (hr : Rd (.int .i64) w0 ok A xs c) (hok : ∀ k, ok k → k < w0.heap.size) (hne : ∀ k, ok k → ¬ k = bl) : Calls Tryd.prog 55 #[.slice A xs.length c, .func (.func 56) #[] #[.pointer (some ⟨bl, 0, none⟩)]] w0 fun e w' => e = .returned (.bool (!nodesFrom last xs)) ∧ Mods (fun k => k = bl) w0 w' ∧ ∃ l', w'.heap[bl]? = some (.cells #[.int .i64 l'] 3 (0, 0)) := by
 refine calls_of_wp Tryd.func55 rfl ?_
 have hF := Fr.enter #[.slice A xs.length c, .func (.func 56) #[] #[.pointer (some ⟨bl, 0, none⟩)]] 9 (slotsOf [.slice A xs.length c, .func (.func 56) #[] #[.pointer (some ⟨bl, 0, none⟩)]] 0) (Nat.le_of_ble_eq_true rfl) (fun i v h => by have h2 := (get_slotsOf _ 0 i v h).2; simpa only [List.getElem?_toArray, Nat.sub_zero] using h2)
 rw [Tryd.ntmps55]
 revert hF; generalize (⟨(#[.slice A xs.length c, .func (.func 56) #[] #[.pointer (some ⟨bl, 0, none⟩)]] : Array Value) ++ Array.replicate (9 - (#[.slice A xs.length c, .func (.func 56) #[] #[.pointer (some ⟨bl, 0, none⟩)]] : Array Value).size) undef, []⟩ : Act) = a; intro hF
 have hH := Hp.ownblk 1 hbl
 have hH := hH.readable 901 hr hok (fun i X hX k hk hk2 => by rcases get_one hX with ⟨_, rfl⟩ | ⟨_, h⟩; exact hne k hk2 hk; simp [Sx.get] at h)
 refine wp_seq_k fun khK1 hK1 => ?_
 refine wp_region_lit ?_
 refine l_at hF rfl rfl rfl (x_assign rfl) ?_; clear hF; intro a hF
 refine wpList_nil ?_
 refine hK1 _ _ ?_
 refine wp_seq_k fun khK2 hK2 => ?_
 refine wp_region_lit ?_
 refine l_at hF rfl rfl rfl (x_move (hF.tmp 0 rfl)) ?_; clear hF; intro a hF
 refine l_at hF rfl rfl rfl (x_move (hF.tmp 1 rfl)) ?_; clear hF; intro a hF
 refine wpList_plain rfl fun K hK => ?_
 refine w_call hF (x_enter Tryd.func67 (by kernel_rfl) rfl (by simp only [List.map_toArray, List.map_cons, List.map_nil, hF.tmp 5 rfl, hF.tmp 6 rfl] <;> rfl)) (indexN_calls _ (hH.at 1 rfl) (hH.rd 901 rfl) (fun k hk => hH.inb 901 _ rfl k (.inr hk)) hne) rfl rfl ?_
 rintro _ w ⟨i_, rfl, hi_, hm_, l_, hb_⟩; refine ⟨_, rfl, ?_⟩; clear hF; intro a hF; have hH := hH.put 1 rfl _ hm_ hb_
 refine hK _ _ ?_; clear hK K
 refine l_at hF rfl rfl rfl (x_geq (hF.tmp 7 rfl) rfl) ?_; clear hF; intro a hF
 refine l_at hF rfl rfl rfl (x_assign (hF.tmp 8 rfl)) ?_; clear hF; intro a hF
 refine wpList_nil ?_
 refine hK2 _ _ ?_
 refine wp_ret ?_
 try simp only [Exit.then, Exit.inBlock]
 exact fin_ret hF (res1 hF rfl rfl) ⟨by rw [← hi_] <;> rfl, hH.mods, _, hH.at 1 rfl⟩
set_option maxRecDepth 100000 in
set_option maxHeartbeats 1000000 in
theorem nodes_calls (w0 : World) {ok : Nat → Prop} {A : Option Addr} {xs : List Int} {c : Nat} (hr : Rd (.int .i64) w0 ok A xs c) (v : Int) : Calls Tryd.prog 40 #[.slice A xs.length c, .int .i64 v] w0 fun e w' => e = .returned (.bool (decide (v ∈ xs) && nodesFrom (-1) xs)) ∧ Mods (fun _ => False) w0 w' := by
 refine calls_of_wp Tryd.func40 rfl ?_
 have hF := Fr.enter #[.slice A xs.length c, .int .i64 v] 15 (slotsOf [.slice A xs.length c, .int .i64 v] 0) (Nat.le_of_ble_eq_true rfl) (fun i v h => by have h2 := (get_slotsOf _ 0 i v h).2; simpa only [List.getElem?_toArray, Nat.sub_zero] using h2)
 have hH := Hp.nil (fun _ => False) w0
 rw [Tryd.ntmps40]
 revert hF; generalize (⟨(#[.slice A xs.length c, .int .i64 v] : Array Value) ++ Array.replicate (15 - (#[.slice A xs.length c, .int .i64 v] : Array Value).size) undef, []⟩ : Act) = a; intro hF
 have hH := hH.arg 901 hr.all (fun _ h => ⟨h, fun h => h⟩)
 have hle901 := hr.le; unfold maxLen at hle901
 refine wp_seq_k fun khK1 hK1 => ?_
 refine wp_region_lit ?_
 refine l_at hF rfl rfl rfl (x_assign rfl) ?_; clear hF; intro a hF
 refine wpList_nil ?_
 refine hK1 _ _ ?_
 refine wp_seq_k fun khK2 hK2 => ?_
 refine wp_region_lit ?_
 refine wpList_plain rfl fun K hK => ?_
 refine w_alloc 5 hF hH rfl ty3 ?_
 clear hF hH; intro a w b5 hF hH
 refine hK _ _ ?_; clear hK K
 refine wpList_plain rfl fun K hK => ?_
 refine w_store 5 hH ty3 rfl (hF.tmp 5 rfl) rfl rfl (one1 rfl rfl) (by first | decide | exact Nat.le_of_ble_eq_true rfl) ?_
 clear hH; intro w hH
 refine hK _ _ ?_; clear hK K
 refine wpList_nil ?_
 refine hK2 _ _ ?_
 refine wp_seq_k fun khK3 hK3 => ?_
 refine wp_region_lit ?_
 refine l_at hF rfl rfl rfl (x_move (hF.tmp 0 rfl)) ?_; clear hF; intro a hF
 refine l_at hF rfl rfl rfl (x_move (hF.tmp 1 rfl)) ?_; clear hF; intro a hF
 refine wpList_plain rfl fun K hK => ?_
 refine w_call hF (x_enter Tryd.func54 (by kernel_rfl) rfl (by simp only [List.map_toArray, List.map_cons, List.map_nil, hF.tmp 6 rfl, hF.tmp 7 rfl] <;> rfl)) (contains_calls _ ((hH.rd 901 rfl)) v) rfl rfl ?_
 rintro _ w ⟨rfl, hm_⟩; refine ⟨_, rfl, ?_⟩; clear hF; intro a hF; have hH := hH.same hm_
 refine hK _ _ ?_; clear hK K
 refine l_at hF rfl rfl rfl (x_move (hF.tmp 8 rfl)) ?_; clear hF; intro a hF
 refine split_bool hF 9 rfl (fun hb9 => ?_) (fun hb9 => ?_)
 ·have hc9 := hb9; try simp only [Bool.or_eq_true, Bool.and_eq_true, Bool.or_eq_false_iff, Bool.and_eq_false_iff, Bool.not_eq_true', Bool.not_eq_false', decide_eq_true_eq, decide_eq_false_iff_not, Bool.not_true, Bool.not_false] at hc9
  refine l_atg hF ((wanted_of hF rfl rfl rfl rfl).trans (by rw [hb9]; rfl)) rfl rfl (x_move (hF.tmp 0 rfl)) ?_; clear hF; intro a hF
  refine l_atg hF ((wanted_of hF rfl rfl rfl rfl).trans (by rw [hb9]; rfl)) rfl rfl (x_mkfunc (vs := #[.pointer (some ⟨b5, 0, none⟩)]) (by simp only [List.map_toArray, List.map_cons, List.map_nil, hF.tmp 5 rfl] <;> rfl)) ?_; clear hF; intro a hF
  refine wpList_on ((wanted_of hF rfl rfl rfl rfl).trans (by rw [hb9]; rfl)) fun K hK => ?_
  refine w_call hF (x_enter Tryd.func55 (by kernel_rfl) rfl (by simp only [List.map_toArray, List.map_cons, List.map_nil, hF.tmp 10 rfl, hF.tmp 11 rfl] <;> rfl)) (containsN_calls _ (hH.at 5 rfl) (hH.rd 901 rfl) (fun k hk => hH.inb 901 _ rfl k (.inr hk)) (fun k hk e => hH.sep 5 901 _ _ (by decide) rfl rfl k e (.inr hk))) rfl rfl ?_
  rintro _ w ⟨rfl, hm_, l_, hb_⟩; refine ⟨_, rfl, ?_⟩; clear hF; intro a hF; have hH := hH.put 5 rfl _ hm_ hb_
  refine hK _ _ ?_; clear hK K
  refine l_atg hF ((wanted_of hF rfl rfl rfl rfl).trans (by rw [hb9]; rfl)) rfl rfl (x_not (hF.tmp 12 rfl)) ?_; clear hF; intro a hF
  refine l_at hF rfl rfl rfl (x_pickT (hF.tmp 9 rfl) hb9 (hF.tmp 13 rfl)) ?_; clear hF; intro a hF
  refine l_at hF rfl rfl rfl (x_assign (hF.tmp 14 rfl)) ?_; clear hF; intro a hF
  refine wpList_nil ?_
  refine hK3 _ _ ?_
  refine wp_ret ?_
  try simp only [Exit.then, Exit.inBlock]
  have hv : (!(!nodesFrom (-1) xs)) = (decide (v ∈ xs) && nodesFrom (-1) xs) := by simp [hc9]
  exact fin_ret hF (res1 (v := .bool (!(!nodesFrom (-1) xs))) hF rfl rfl) ⟨by rw [hv], hH.mods⟩
 ·have hc9 := hb9; try simp only [Bool.or_eq_true, Bool.and_eq_true, Bool.or_eq_false_iff, Bool.and_eq_false_iff, Bool.not_eq_true', Bool.not_eq_false', decide_eq_true_eq, decide_eq_false_iff_not, Bool.not_true, Bool.not_false] at hc9
  refine l_offg hF ((wanted_of hF rfl rfl rfl rfl).trans (by rw [hb9]; rfl)) rfl rfl ?_; clear hF; intro a hF
  refine l_offg hF ((wanted_of hF rfl rfl rfl rfl).trans (by rw [hb9]; rfl)) rfl rfl ?_; clear hF; intro a hF
  refine l_offg hF ((wanted_of hF rfl rfl rfl rfl).trans (by rw [hb9]; rfl)) rfl rfl ?_; clear hF; intro a hF
  refine l_offg hF ((wanted_of hF rfl rfl rfl rfl).trans (by rw [hb9]; rfl)) rfl rfl ?_; clear hF; intro a hF
  refine l_at hF rfl rfl rfl (x_pickF (hF.tmp 9 rfl) hb9 rfl) ?_; clear hF; intro a hF
  refine l_at hF rfl rfl rfl (x_assign (hF.tmp 14 rfl)) ?_; clear hF; intro a hF
  refine wpList_nil ?_
  refine hK3 _ _ ?_
  refine wp_ret ?_
  try simp only [Exit.then, Exit.inBlock]
  have hv : false = (decide (v ∈ xs) && nodesFrom (-1) xs) := by simp [hc9]
  exact fin_ret hF (res1 (v := .bool false) hF rfl rfl) ⟨by rw [hv], hH.mods⟩
set_option maxRecDepth 100000 in
set_option maxHeartbeats 1000000 in
theorem right1_calls (w0 : World) {pp : Bool} (hL : LibAt pp w0) {c : ChangeD} {okc0 : Nat → Prop} {Ac0 : Option Addr} {cc0 : Nat} (hrc0 : Rd StE w0 okc0 Ac0 c.timer.steps cc0) (hb : ChangeB c) : Calls Tryd.prog 42 #[.agg #[.int .i64 c.kind, .string (strOfNums c.key), .string (strOfNums c.value), .string (strOfNums c.timer.name), .int .i64 c.timer.ver, .int .u64 c.timer.tick, .int .u64 c.timer.every, .slice Ac0 c.timer.steps.length cc0]] w0 fun e w' => e = .returned (.bool (!rightC c)) ∧ Mods (fun _ => False) w0 w' := by
 refine calls_of_wp Tryd.func42 rfl ?_
 have hF := Fr.enter #[.agg #[.int .i64 c.kind, .string (strOfNums c.key), .string (strOfNums c.value), .string (strOfNums c.timer.name), .int .i64 c.timer.ver, .int .u64 c.timer.tick, .int .u64 c.timer.every, .slice Ac0 c.timer.steps.length cc0]] 6 (slotsOf [.agg #[.int .i64 c.kind, .string (strOfNums c.key), .string (strOfNums c.value), .string (strOfNums c.timer.name), .int .i64 c.timer.ver, .int .u64 c.timer.tick, .int .u64 c.timer.every, .slice Ac0 c.timer.steps.length cc0]] 0) (Nat.le_of_ble_eq_true rfl) (fun i v h => by have h2 := (get_slotsOf _ 0 i v h).2; simpa only [List.getElem?_toArray, Nat.sub_zero] using h2)
 have hH := Hp.nil (fun _ => False) w0
 rw [Tryd.ntmps42]
 revert hF; generalize (⟨(#[.agg #[.int .i64 c.kind, .string (strOfNums c.key), .string (strOfNums c.value), .string (strOfNums c.timer.name), .int .i64 c.timer.ver, .int .u64 c.timer.tick, .int .u64 c.timer.every, .slice Ac0 c.timer.steps.length cc0]] : Array Value) ++ Array.replicate (6 - (#[.agg #[.int .i64 c.kind, .string (strOfNums c.key), .string (strOfNums c.value), .string (strOfNums c.timer.name), .int .i64 c.timer.ver, .int .u64 c.timer.tick, .int .u64 c.timer.every, .slice Ac0 c.timer.steps.length cc0]] : Array Value).size) undef, []⟩ : Act) = a; intro hF
 have hH := hH.arg 900 hrc0.all (fun _ h => ⟨h, fun h => h⟩)
 have hlec0 := hrc0.le; unfold maxLen at hlec0
 have hH := hH.libN 990 hL
 refine wp_seq_k fun khK1 hK1 => ?_
 refine wp_region_lit ?_
 refine wpList_plain rfl fun K hK => ?_
 refine w_box 1 hF hH rfl (hF.tmp 0 rfl) ?_
 clear hF hH; intro a w b1 hF hH
 refine hK _ _ ?_; clear hK K
 refine l_at hF rfl rfl rfl (x_assign rfl) ?_; clear hF; intro a hF
 refine wpList_nil ?_
 refine hK1 _ _ ?_
 refine wp_seq_k fun khK2 hK2 => ?_
 refine wp_region_lit ?_
 refine l_at hF rfl rfl rfl (x_loadn ty69 (hF.tmp 1 rfl) rfl (blk_whole (hH.at 1 rfl))) ?_; clear hF; intro a hF
 refine wpList_plain rfl fun K hK => ?_
 refine w_call hF (x_enter Tryd.func43 (by kernel_rfl) rfl (by simp only [List.map_toArray, List.map_cons, List.map_nil, hF.tmp 3 rfl] <;> rfl)) (rightC_calls _ (hH.holds 990 _ rfl) ((hH.rd 900 rfl)) hb) rfl rfl ?_
 rintro _ w ⟨rfl, hm_⟩; refine ⟨_, rfl, ?_⟩; clear hF; intro a hF; have hH := hH.same hm_
 refine hK _ _ ?_; clear hK K
 refine l_at hF rfl rfl rfl (x_not (hF.tmp 4 rfl)) ?_; clear hF; intro a hF
 refine l_at hF rfl rfl rfl (x_assign (hF.tmp 5 rfl)) ?_; clear hF; intro a hF
 refine wpList_nil ?_
 refine hK2 _ _ ?_
 refine wp_ret ?_
 try simp only [Exit.then, Exit.inBlock]
 exact fin_ret hF (res1 hF rfl rfl) ⟨rfl, hH.mods⟩
set_option maxRecDepth 100000 in
set_option maxHeartbeats 1000000 in
theorem indexC_calls (w0 : World) {pp : Bool} (hL : LibAt pp w0) {ok : Nat → Prop} {A : Option Addr} {xs : List ChangeD} {c : Nat} (hr : Rd ChgE w0 ok A xs c) (hbs : ∀ c ∈ xs, ChangeB c) : Calls Tryd.prog 57 #[.slice A xs.length c, .func (.func 42) #[] #[]] w0 fun e w' => ∃ i, e = .returned (.int .i64 i) ∧ decide ((0 : Int) ≤ i) = !xs.all rightC ∧ Mods (fun _ => False) w0 w' := by
 refine calls_of_wp Tryd.func57 rfl ?_
 have hF := Fr.enter #[.slice A xs.length c, .func (.func 42) #[] #[]] 19 (slotsOf [.slice A xs.length c, .func (.func 42) #[] #[]] 0) (Nat.le_of_ble_eq_true rfl) (fun i v h => by have h2 := (get_slotsOf _ 0 i v h).2; simpa only [List.getElem?_toArray, Nat.sub_zero] using h2)
 have hH := Hp.nil (fun _ => False) w0
 rw [Tryd.ntmps57]
 revert hF; generalize (⟨(#[.slice A xs.length c, .func (.func 42) #[] #[]] : Array Value) ++ Array.replicate (19 - (#[.slice A xs.length c, .func (.func 42) #[] #[]] : Array Value).size) undef, []⟩ : Act) = a; intro hF
 have hH := hH.arg 901 hr.all (fun _ h => ⟨h, fun h => h⟩)
 have hle901 := hr.le; unfold maxLen at hle901
 have hH := hH.libN 990 hL
 refine wp_seq_k fun khK1 hK1 => ?_
 refine wp_region_lit ?_
 refine l_at hF rfl rfl rfl (x_assign rfl) ?_; clear hF; intro a hF
 refine wpList_nil ?_
 refine hK1 _ _ ?_
 refine wp_seq_k fun khK2 hK2 => ?_
 refine wp_seq_k fun khK3 hK3 => ?_
 refine wp_region_lit ?_
 refine l_at hF rfl rfl rfl (x_move (hF.tmp 0 rfl)) ?_; clear hF; intro a hF
 refine l_at hF rfl rfl rfl (x_len_slice Tryd.underlying28 (hF.tmp 6 rfl)) ?_; clear hF; intro a hF
 refine l_at hF rfl rfl rfl (x_move rfl) ?_; clear hF; intro a hF
 refine wpList_nil ?_
 refine hK3 _ _ ?_
 refine wp_block ?_
 refine wp_loop_ghost (fun n_ a w => ∃ k : Nat, n_ = xs.length - k ∧ (k ≤ xs.length) ∧ ((xs.take k).all rightC = true) ∧ Fr 19 a [(0, .slice A xs.length c), (1, .func (.func 42) #[] #[]), (7, .int .i64 (xs.length : Int)), (8, .int .i64 (k : Int))] ∧ Hp (fun _ => False) w0 w [(901, .rd_ ChgE A xs c (fun k => k < w0.heap.size)), (990, .lib pp)]) (xs.length) ?_ ?_
 ·exact ⟨0, rfl, by omega, rfl, ((((hF.bare.add hF 8 rfl).add hF 7 rfl).add hF 1 rfl).add hF 0 rfl), hH.sub _ (sub_cons (sub_cons (sub_nil _) 990 rfl) 901 rfl)⟩
 ·rintro _ a w ⟨k, rfl, hq0_0, hq0_1, hF, hH⟩
  refine wp_seq_k fun khK4 hK4 => ?_
  refine wp_region_lit ?_
  refine l_at hF rfl rfl rfl (x_lss (hF.tmp 8 rfl) (hF.tmp 7 rfl)) ?_; clear hF; intro a hF
  refine wpList_nil ?_
  refine hK4 _ _ ?_
  refine wp_seq_k fun khK5 hK5 => ?_
  refine wp_cond_split (hF.tmp 9 rfl) (fun hc9 => ?_) (fun hc9 => ?_)
  ·have hk9_1 := hc9; try simp only [Bool.or_eq_true, Bool.and_eq_true, Bool.or_eq_false_iff, Bool.and_eq_false_iff, Bool.not_eq_true', Bool.not_eq_false', decide_eq_true_eq, decide_eq_false_iff_not, Bool.not_true, Bool.not_false] at hc9
   refine wp_skip ?_
   refine hK5 _ _ ?_
   refine wp_seq_k fun khK6 hK6 => ?_
   refine wp_block ?_
   refine wp_seq_k fun khK7 hK7 => ?_
   refine wp_region_lit ?_
   refine l_at hF rfl rfl rfl (x_move (hF.tmp 8 rfl)) ?_; clear hF; intro a hF
   refine l_at hF rfl rfl rfl (x_assign (hF.tmp 10 rfl)) ?_; clear hF; intro a hF
   refine wpList_nil ?_
   refine hK7 _ _ ?_
   refine wp_seq_k fun khK8 hK8 => ?_
   refine wp_region_lit ?_
   obtain ⟨fA1, fc1, hfr1, hf1_0, hf1_1, hf1_2, hf1_3, hf1_4, hf1_5, hf1_6, hf1_7, hfw1⟩ := rd_chg ((hH.rd 901 rfl)) (gchg_some (xs := xs) (i := (k : Int)) (by omega) (by omega))
   have hH := hH.subrd 901 rfl 1007 hfr1 (fun _ h => h)
   have hH := hH.subcels 901 rfl 1499 hfw1 (Rd.inok ((hH.rd 901 rfl)) (by omega) _)
   have hH := hH.subcel 901 rfl 1500 hf1_0 (Rd.inok ((hH.rd 901 rfl)) (by omega) _)
   have hH := hH.subcel 901 rfl 1501 hf1_1 (Rd.inok ((hH.rd 901 rfl)) (by omega) _)
   have hH := hH.subcel 901 rfl 1502 hf1_2 (Rd.inok ((hH.rd 901 rfl)) (by omega) _)
   have hH := hH.subcel 901 rfl 1503 hf1_3 (Rd.inok ((hH.rd 901 rfl)) (by omega) _)
   have hH := hH.subcel 901 rfl 1504 hf1_4 (Rd.inok ((hH.rd 901 rfl)) (by omega) _)
   have hH := hH.subcel 901 rfl 1505 hf1_5 (Rd.inok ((hH.rd 901 rfl)) (by omega) _)
   have hH := hH.subcel 901 rfl 1506 hf1_6 (Rd.inok ((hH.rd 901 rfl)) (by omega) _)
   have hH := hH.subcel 901 rfl 1507 hf1_7 (Rd.inok ((hH.rd 901 rfl)) (by omega) _)
   refine l_at hF rfl rfl rfl (x_move (hF.tmp 1 rfl)) ?_; clear hF; intro a hF
   refine l_at hF rfl rfl rfl (x_move (hF.tmp 0 rfl)) ?_; clear hF; intro a hF
   refine l_at hF rfl rfl rfl (x_move (hF.tmp 5 rfl)) ?_; clear hF; intro a hF
   refine l_at hF rfl rfl rfl (x_iaddr_A Tryd.underlying28 ty69 ((hH.rd 901 rfl)) (hF.tmp 12 rfl) (hF.tmp 13 rfl) (by omega) (by omega) _) ?_; clear hF; intro a hF
   refine l_at hF rfl rfl rfl (x_loadn ty69 (hF.tmp 14 rfl) rfl (hH.holds 1499 _ rfl)) ?_; clear hF; intro a hF
   refine wpList_plain rfl fun K hK => ?_
   refine w_call hF (x_enterC (vs := #[.agg #[.int .i64 (gchg xs (k : Int)).kind, .string (strOfNums (gchg xs (k : Int)).key), .string (strOfNums (gchg xs (k : Int)).value), .string (strOfNums (gchg xs (k : Int)).timer.name), .int .i64 (gchg xs (k : Int)).timer.ver, .int .u64 (gchg xs (k : Int)).timer.tick, .int .u64 (gchg xs (k : Int)).timer.every, .slice fA1 (gchg xs (k : Int)).timer.steps.length fc1]]) (caps := #[]) (args := #[.agg #[.int .i64 (gchg xs (k : Int)).kind, .string (strOfNums (gchg xs (k : Int)).key), .string (strOfNums (gchg xs (k : Int)).value), .string (strOfNums (gchg xs (k : Int)).timer.name), .int .i64 (gchg xs (k : Int)).timer.ver, .int .u64 (gchg xs (k : Int)).timer.tick, .int .u64 (gchg xs (k : Int)).timer.every, .slice fA1 (gchg xs (k : Int)).timer.steps.length fc1]]) Tryd.func42 (by kernel_rfl) rfl (hF.tmp 11 rfl) (by simp only [List.map_toArray, List.map_cons, List.map_nil, hF.tmp 15 rfl] <;> rfl) rfl) (right1_calls _ (hH.holds 990 _ rfl) (hH.rd 1007 rfl) (hbs _ (gchg_mem (xs := xs) (j := k) (by omega)))) rfl rfl ?_
   rintro _ w ⟨rfl, hm_⟩; refine ⟨_, rfl, ?_⟩; clear hF; intro a hF; have hH := hH.same hm_
   refine hK _ _ ?_; clear hK K
   refine wpList_nil ?_
   refine hK8 _ _ ?_
   refine wp_cond_split (hF.tmp 16 rfl) (fun hc16 => ?_) (fun hc16 => ?_)
   ·have hk16_2 := hc16; try simp only [Bool.or_eq_true, Bool.and_eq_true, Bool.or_eq_false_iff, Bool.and_eq_false_iff, Bool.not_eq_true', Bool.not_eq_false', decide_eq_true_eq, decide_eq_false_iff_not, Bool.not_true, Bool.not_false] at hc16
    have hz : decide ((0 : Int) ≤ (k : Int)) = !xs.all rightC := by rw [decide_eq_true (by omega), right_bad hc9 (by simpa using hc16)]; rfl
    refine wp_seq_k fun khK9 hK9 => ?_
    refine wp_region_lit ?_
    refine l_at hF rfl rfl rfl (x_move (hF.tmp 5 rfl)) ?_; clear hF; intro a hF
    refine l_at hF rfl rfl rfl (x_assign (hF.tmp 17 rfl)) ?_; clear hF; intro a hF
    refine wpList_nil ?_
    refine hK9 _ _ ?_
    refine wp_ret ?_
    try simp only [Exit.then, Exit.inBlock]
    exact fin_ret hF (res1 hF rfl rfl) ⟨_, rfl, hz, hH.mods⟩
   ·have hk16_3 := hc16; try simp only [Bool.or_eq_true, Bool.and_eq_true, Bool.or_eq_false_iff, Bool.and_eq_false_iff, Bool.not_eq_true', Bool.not_eq_false', decide_eq_true_eq, decide_eq_false_iff_not, Bool.not_true, Bool.not_false] at hc16
    have hcr : rightC (gchg xs (k : Int)) = true := by simpa using hc16
    refine wp_skip ?_
    refine hK6 _ _ ?_
    refine wp_region_lit ?_
    refine l_at hF rfl rfl rfl (x_add (hF.tmp 8 rfl) rfl (w64 (by omega) (by omega))) ?_; clear hF; intro a hF
    refine l_at hF rfl rfl rfl (x_move (hF.tmp 18 rfl)) ?_; clear hF; intro a hF
    refine wpList_nil ?_
    exact ⟨_, by omega, ⟨k + 1, rfl, by omega, right_take hc9 hq0_1 hcr, ((((hF.bare.add hF 8 rfl).add hF 7 rfl).add hF 1 rfl).add hF 0 rfl), hH.sub _ (sub_cons (sub_cons (sub_nil _) 990 rfl) 901 rfl)⟩⟩
  ·have hk9_4 := hc9; try simp only [Bool.or_eq_true, Bool.and_eq_true, Bool.or_eq_false_iff, Bool.and_eq_false_iff, Bool.not_eq_true', Bool.not_eq_false', decide_eq_true_eq, decide_eq_false_iff_not, Bool.not_true, Bool.not_false] at hc9
   obtain rfl : k = xs.length := by omega
   rw [List.take_length] at hq0_1
   have hz : decide ((0 : Int) ≤ -1) = !xs.all rightC := by rw [hq0_1]; rfl
   refine wp_exit ?_
   refine hK2 _ _ ?_
   refine wp_seq_k fun khK10 hK10 => ?_
   refine wp_region_lit ?_
   refine l_at hF rfl rfl rfl (x_assign rfl) ?_; clear hF; intro a hF
   refine wpList_nil ?_
   refine hK10 _ _ ?_
   refine wp_ret ?_
   try simp only [Exit.then, Exit.inBlock]
   exact fin_ret hF (res1 hF rfl rfl) ⟨_, rfl, hz, hH.mods⟩
set_option maxRecDepth 100000 in
set_option maxHeartbeats 1000000 in
theorem containsC_calls (w0 : World) {pp : Bool} (hL : LibAt pp w0) {ok : Nat → Prop} {A : Option Addr} {xs : List ChangeD} {c : Nat} (hr : Rd ChgE w0 ok A xs c) (hbs : ∀ c ∈ xs, ChangeB c) : Calls Tryd.prog 41 #[.slice A xs.length c, .func (.func 42) #[] #[]] w0 fun e w' => e = .returned (.bool (!xs.all rightC)) ∧ Mods (fun _ => False) w0 w' := by
 refine calls_of_wp Tryd.func41 rfl ?_
 have hF := Fr.enter #[.slice A xs.length c, .func (.func 42) #[] #[]] 9 (slotsOf [.slice A xs.length c, .func (.func 42) #[] #[]] 0) (Nat.le_of_ble_eq_true rfl) (fun i v h => by have h2 := (get_slotsOf _ 0 i v h).2; simpa only [List.getElem?_toArray, Nat.sub_zero] using h2)
 have hH := Hp.nil (fun _ => False) w0
 rw [Tryd.ntmps41]
 revert hF; generalize (⟨(#[.slice A xs.length c, .func (.func 42) #[] #[]] : Array Value) ++ Array.replicate (9 - (#[.slice A xs.length c, .func (.func 42) #[] #[]] : Array Value).size) undef, []⟩ : Act) = a; intro hF
 have hH := hH.arg 901 hr.all (fun _ h => ⟨h, fun h => h⟩)
 have hle901 := hr.le; unfold maxLen at hle901
 have hH := hH.libN 990 hL
 refine wp_seq_k fun khK1 hK1 => ?_
 refine wp_region_lit ?_
 refine l_at hF rfl rfl rfl (x_assign rfl) ?_; clear hF; intro a hF
 refine wpList_nil ?_
 refine hK1 _ _ ?_
 refine wp_seq_k fun khK2 hK2 => ?_
 refine wp_region_lit ?_
 refine l_at hF rfl rfl rfl (x_move (hF.tmp 0 rfl)) ?_; clear hF; intro a hF
 refine l_at hF rfl rfl rfl (x_move (hF.tmp 1 rfl)) ?_; clear hF; intro a hF
 refine wpList_plain rfl fun K hK => ?_
 refine w_call hF (x_enter Tryd.func57 (by kernel_rfl) rfl (by simp only [List.map_toArray, List.map_cons, List.map_nil, hF.tmp 5 rfl, hF.tmp 6 rfl] <;> rfl)) (indexC_calls _ (hH.holds 990 _ rfl) ((hH.rd 901 rfl)) hbs) rfl rfl ?_
 rintro _ w ⟨i_, rfl, hi_, hm_⟩; refine ⟨_, rfl, ?_⟩; clear hF; intro a hF; have hH := hH.same hm_
 refine hK _ _ ?_; clear hK K
 refine l_at hF rfl rfl rfl (x_geq (hF.tmp 7 rfl) rfl) ?_; clear hF; intro a hF
 refine l_at hF rfl rfl rfl (x_assign (hF.tmp 8 rfl)) ?_; clear hF; intro a hF
 refine wpList_nil ?_
 refine hK2 _ _ ?_
 refine wp_ret ?_
 try simp only [Exit.then, Exit.inBlock]
 exact fin_ret hF (res1 hF rfl rfl) ⟨by rw [← hi_] <;> rfl, hH.mods⟩
set_option maxRecDepth 100000 in
set_option maxHeartbeats 1000000 in
theorem rightM_calls (w0 : World) {pp : Bool} (hL : LibAt pp w0) {m : MessageD} {okm0 : Nat → Prop} {Am0 : Option Addr} {cm0 : Nat} (hrm0 : Rd (Rep.int .i64) w0 okm0 Am0 m.nodes cm0) {okm1 : Nat → Prop} {Am1 : Option Addr} {cm1 : Nat} (hrm1 : Rd ChgE w0 okm1 Am1 m.changes cm1) (hb : MessageB m) : Calls Tryd.prog 27 #[.agg #[.int .i64 m.kind, .int .i64 m.src, .int .i64 m.dst, .int .i64 m.tx, .slice Am0 m.nodes.length cm0, .slice Am1 m.changes.length cm1]] w0 fun e w' => e = .returned (.bool (rightM m)) ∧ Mods (fun _ => False) w0 w' := by
 refine calls_of_wp Tryd.func27 rfl ?_
 have hF := Fr.enter #[.agg #[.int .i64 m.kind, .int .i64 m.src, .int .i64 m.dst, .int .i64 m.tx, .slice Am0 m.nodes.length cm0, .slice Am1 m.changes.length cm1]] 65 (slotsOf [.agg #[.int .i64 m.kind, .int .i64 m.src, .int .i64 m.dst, .int .i64 m.tx, .slice Am0 m.nodes.length cm0, .slice Am1 m.changes.length cm1]] 0) (Nat.le_of_ble_eq_true rfl) (fun i v h => by have h2 := (get_slotsOf _ 0 i v h).2; simpa only [List.getElem?_toArray, Nat.sub_zero] using h2)
 have hH := Hp.nil (fun _ => False) w0
 rw [Tryd.ntmps27]
 revert hF; generalize (⟨(#[.agg #[.int .i64 m.kind, .int .i64 m.src, .int .i64 m.dst, .int .i64 m.tx, .slice Am0 m.nodes.length cm0, .slice Am1 m.changes.length cm1]] : Array Value) ++ Array.replicate (65 - (#[.agg #[.int .i64 m.kind, .int .i64 m.src, .int .i64 m.dst, .int .i64 m.tx, .slice Am0 m.nodes.length cm0, .slice Am1 m.changes.length cm1]] : Array Value).size) undef, []⟩ : Act) = a; intro hF
 have hH := hH.arg 900 hrm0.all (fun _ h => ⟨h, fun h => h⟩)
 have hlem0 := hrm0.le; unfold maxLen at hlem0
 have hH := hH.arg 901 hrm1.all (fun _ h => ⟨h, fun h => h⟩)
 have hlem1 := hrm1.le; unfold maxLen at hlem1
 have hH := hH.libN 990 hL
 refine wp_seq_k fun khK1 hK1 => ?_
 refine wp_region_lit ?_
 refine wpList_plain rfl fun K hK => ?_
 refine w_box 1 hF hH rfl (hF.tmp 0 rfl) ?_
 clear hF hH; intro a w b1 hF hH
 refine hK _ _ ?_; clear hK K
 refine l_at hF rfl rfl rfl (x_assign rfl) ?_; clear hF; intro a hF
 refine wpList_nil ?_
 refine hK1 _ _ ?_
 refine wp_seq_k fun khK2 hK2 => ?_
 refine wp_block ?_
 refine wp_seq_k fun khK3 hK3 => ?_
 refine wp_region_lit ?_
 refine l_at hF rfl rfl rfl (x_faddr Tryd.underlying30 rfl ty26 (by decide) (hF.tmp 1 rfl) rfl) ?_; clear hF; intro a hF
 refine l_at hF rfl rfl rfl (x_load1 ty26 (hF.tmp 4 rfl) (blk_cell (hH.at 1 rfl) 0 rfl)) ?_; clear hF; intro a hF
 refine l_at hF rfl rfl rfl (x_lss (hF.tmp 5 rfl) rfl) ?_; clear hF; intro a hF
 refine l_at hF rfl rfl rfl (x_move (hF.tmp 6 rfl)) ?_; clear hF; intro a hF
 refine split_bool hF 7 rfl (fun hb7 => ?_) (fun hb7 => ?_)
 ·have hc7 := hb7; try simp only [Bool.or_eq_true, Bool.and_eq_true, Bool.or_eq_false_iff, Bool.and_eq_false_iff, Bool.not_eq_true', Bool.not_eq_false', decide_eq_true_eq, decide_eq_false_iff_not, Bool.not_true, Bool.not_false] at hc7
  refine l_offg hF ((wanted_of hF rfl rfl rfl rfl).trans (by rw [hb7]; rfl)) rfl rfl ?_; clear hF; intro a hF
  refine l_offg hF ((wanted_of hF rfl rfl rfl rfl).trans (by rw [hb7]; rfl)) rfl rfl ?_; clear hF; intro a hF
  refine l_offg hF ((wanted_of hF rfl rfl rfl rfl).trans (by rw [hb7]; rfl)) rfl rfl ?_; clear hF; intro a hF
  refine l_at hF rfl rfl rfl (x_pickT (hF.tmp 7 rfl) hb7 rfl) ?_; clear hF; intro a hF
  refine l_at hF rfl rfl rfl (x_move (hF.tmp 11 rfl)) ?_; clear hF; intro a hF
  refine l_offg hF ((wanted_of hF rfl rfl rfl rfl).trans rfl) rfl rfl ?_; clear hF; intro a hF
  refine l_offg hF ((wanted_of hF rfl rfl rfl rfl).trans rfl) rfl rfl ?_; clear hF; intro a hF
  refine l_offg hF ((wanted_of hF rfl rfl rfl rfl).trans rfl) rfl rfl ?_; clear hF; intro a hF
  refine l_offg hF ((wanted_of hF rfl rfl rfl rfl).trans rfl) rfl rfl ?_; clear hF; intro a hF
  refine l_at hF rfl rfl rfl (x_pickT (hF.tmp 12 rfl) rfl rfl) ?_; clear hF; intro a hF
  refine l_at hF rfl rfl rfl (x_move (hF.tmp 17 rfl)) ?_; clear hF; intro a hF
  refine l_offg hF ((wanted_of hF rfl rfl rfl rfl).trans rfl) rfl rfl ?_; clear hF; intro a hF
  refine l_offg hF ((wanted_of hF rfl rfl rfl rfl).trans rfl) rfl rfl ?_; clear hF; intro a hF
  refine l_offg hF ((wanted_of hF rfl rfl rfl rfl).trans rfl) rfl rfl ?_; clear hF; intro a hF
  refine l_offg hF ((wanted_of hF rfl rfl rfl rfl).trans rfl) rfl rfl ?_; clear hF; intro a hF
  refine l_at hF rfl rfl rfl (x_pickT (hF.tmp 18 rfl) rfl rfl) ?_; clear hF; intro a hF
  refine l_at hF rfl rfl rfl (x_move (hF.tmp 23 rfl)) ?_; clear hF; intro a hF
  refine l_offg hF ((wanted_of hF rfl rfl rfl rfl).trans rfl) rfl rfl ?_; clear hF; intro a hF
  refine l_offg hF ((wanted_of hF rfl rfl rfl rfl).trans rfl) rfl rfl ?_; clear hF; intro a hF
  refine l_offg hF ((wanted_of hF rfl rfl rfl rfl).trans rfl) rfl rfl ?_; clear hF; intro a hF
  refine l_at hF rfl rfl rfl (x_pickT (hF.tmp 24 rfl) rfl rfl) ?_; clear hF; intro a hF
  refine l_at hF rfl rfl rfl (x_move (hF.tmp 28 rfl)) ?_; clear hF; intro a hF
  refine l_offg hF ((wanted_of hF rfl rfl rfl rfl).trans rfl) rfl rfl ?_; clear hF; intro a hF
  refine l_offg hF ((wanted_of hF rfl rfl rfl rfl).trans rfl) rfl rfl ?_; clear hF; intro a hF
  refine l_offg hF ((wanted_of hF rfl rfl rfl rfl).trans rfl) rfl rfl ?_; clear hF; intro a hF
  refine l_at hF rfl rfl rfl (x_pickT (hF.tmp 29 rfl) rfl rfl) ?_; clear hF; intro a hF
  refine l_at hF rfl rfl rfl (x_assign (hF.tmp 33 rfl)) ?_; clear hF; intro a hF
  refine wpList_nil ?_
  refine hK3 _ _ ?_
  refine wp_cond_true (hF.tmp 3 rfl) ?_
  refine wp_seq_k fun khK4 hK4 => ?_
  refine wp_region_lit ?_
  refine l_at hF rfl rfl rfl (x_assign rfl) ?_; clear hF; intro a hF
  refine wpList_nil ?_
  refine hK4 _ _ ?_
  refine wp_ret ?_
  try simp only [Exit.then, Exit.inBlock]
  have hv : false = rightM m := by unfold rightM; first | (simp [hc7]; done) | (simp [hc7]; omega) | (simp [hc7]; intros; omega) | (rw [Bool.eq_iff_iff]; simp [hc7]; first | omega | (intros; omega)) | (simp [hc7, -List.length_eq_zero_iff]; omega) | (rw [Bool.eq_iff_iff]; simp [hc7, -List.length_eq_zero_iff]; first | omega | (intros; omega)) | (simp [hc7, -List.length_eq_zero_iff]; cases m.changes.all rightC <;> simp <;> omega) | (simp [hc7]; intros; simp_all; done)
  exact fin_ret hF (res1 (v := .bool false) hF rfl rfl) ⟨by rw [hv], hH.mods⟩
 ·have hc7 := hb7; try simp only [Bool.or_eq_true, Bool.and_eq_true, Bool.or_eq_false_iff, Bool.and_eq_false_iff, Bool.not_eq_true', Bool.not_eq_false', decide_eq_true_eq, decide_eq_false_iff_not, Bool.not_true, Bool.not_false] at hc7
  refine l_atg hF ((wanted_of hF rfl rfl rfl rfl).trans (by rw [hb7]; rfl)) rfl rfl (x_faddr Tryd.underlying30 rfl ty26 (by decide) (hF.tmp 1 rfl) rfl) ?_; clear hF; intro a hF
  refine l_atg hF ((wanted_of hF rfl rfl rfl rfl).trans (by rw [hb7]; rfl)) rfl rfl (x_load1 ty26 (hF.tmp 8 rfl) (blk_cell (hH.at 1 rfl) 0 rfl)) ?_; clear hF; intro a hF
  refine l_atg hF ((wanted_of hF rfl rfl rfl rfl).trans (by rw [hb7]; rfl)) rfl rfl (x_gtr (hF.tmp 9 rfl) rfl) ?_; clear hF; intro a hF
  refine l_at hF rfl rfl rfl (x_pickF (hF.tmp 7 rfl) hb7 (hF.tmp 10 rfl)) ?_; clear hF; intro a hF
  refine l_at hF rfl rfl rfl (x_move (hF.tmp 11 rfl)) ?_; clear hF; intro a hF
  refine split_bool hF 12 rfl (fun hb12 => ?_) (fun hb12 => ?_)
  ·have hc12 := hb12; try simp only [Bool.or_eq_true, Bool.and_eq_true, Bool.or_eq_false_iff, Bool.and_eq_false_iff, Bool.not_eq_true', Bool.not_eq_false', decide_eq_true_eq, decide_eq_false_iff_not, Bool.not_true, Bool.not_false] at hc12
   refine l_offg hF ((wanted_of hF rfl rfl rfl rfl).trans (by rw [hb12]; rfl)) rfl rfl ?_; clear hF; intro a hF
   refine l_offg hF ((wanted_of hF rfl rfl rfl rfl).trans (by rw [hb12]; rfl)) rfl rfl ?_; clear hF; intro a hF
   refine l_offg hF ((wanted_of hF rfl rfl rfl rfl).trans (by rw [hb12]; rfl)) rfl rfl ?_; clear hF; intro a hF
   refine l_offg hF ((wanted_of hF rfl rfl rfl rfl).trans (by rw [hb12]; rfl)) rfl rfl ?_; clear hF; intro a hF
   refine l_at hF rfl rfl rfl (x_pickT (hF.tmp 12 rfl) hb12 rfl) ?_; clear hF; intro a hF
   refine l_at hF rfl rfl rfl (x_move (hF.tmp 17 rfl)) ?_; clear hF; intro a hF
   refine l_offg hF ((wanted_of hF rfl rfl rfl rfl).trans rfl) rfl rfl ?_; clear hF; intro a hF
   refine l_offg hF ((wanted_of hF rfl rfl rfl rfl).trans rfl) rfl rfl ?_; clear hF; intro a hF
   refine l_offg hF ((wanted_of hF rfl rfl rfl rfl).trans rfl) rfl rfl ?_; clear hF; intro a hF
   refine l_offg hF ((wanted_of hF rfl rfl rfl rfl).trans rfl) rfl rfl ?_; clear hF; intro a hF
   refine l_at hF rfl rfl rfl (x_pickT (hF.tmp 18 rfl) rfl rfl) ?_; clear hF; intro a hF
   refine l_at hF rfl rfl rfl (x_move (hF.tmp 23 rfl)) ?_; clear hF; intro a hF
   refine l_offg hF ((wanted_of hF rfl rfl rfl rfl).trans rfl) rfl rfl ?_; clear hF; intro a hF
   refine l_offg hF ((wanted_of hF rfl rfl rfl rfl).trans rfl) rfl rfl ?_; clear hF; intro a hF
   refine l_offg hF ((wanted_of hF rfl rfl rfl rfl).trans rfl) rfl rfl ?_; clear hF; intro a hF
   refine l_at hF rfl rfl rfl (x_pickT (hF.tmp 24 rfl) rfl rfl) ?_; clear hF; intro a hF
   refine l_at hF rfl rfl rfl (x_move (hF.tmp 28 rfl)) ?_; clear hF; intro a hF
   refine l_offg hF ((wanted_of hF rfl rfl rfl rfl).trans rfl) rfl rfl ?_; clear hF; intro a hF
   refine l_offg hF ((wanted_of hF rfl rfl rfl rfl).trans rfl) rfl rfl ?_; clear hF; intro a hF
   refine l_offg hF ((wanted_of hF rfl rfl rfl rfl).trans rfl) rfl rfl ?_; clear hF; intro a hF
   refine l_at hF rfl rfl rfl (x_pickT (hF.tmp 29 rfl) rfl rfl) ?_; clear hF; intro a hF
   refine l_at hF rfl rfl rfl (x_assign (hF.tmp 33 rfl)) ?_; clear hF; intro a hF
   refine wpList_nil ?_
   refine hK3 _ _ ?_
   refine wp_cond_true (hF.tmp 3 rfl) ?_
   refine wp_seq_k fun khK5 hK5 => ?_
   refine wp_region_lit ?_
   refine l_at hF rfl rfl rfl (x_assign rfl) ?_; clear hF; intro a hF
   refine wpList_nil ?_
   refine hK5 _ _ ?_
   refine wp_ret ?_
   try simp only [Exit.then, Exit.inBlock]
   have hv : false = rightM m := by unfold rightM; first | (simp [hc7, hc12]; done) | (simp [hc7, hc12]; omega) | (simp [hc7, hc12]; intros; omega) | (rw [Bool.eq_iff_iff]; simp [hc7, hc12]; first | omega | (intros; omega)) | (simp [hc7, hc12, -List.length_eq_zero_iff]; omega) | (rw [Bool.eq_iff_iff]; simp [hc7, hc12, -List.length_eq_zero_iff]; first | omega | (intros; omega)) | (simp [hc7, hc12, -List.length_eq_zero_iff]; cases m.changes.all rightC <;> simp <;> omega) | (simp [hc7, hc12]; intros; simp_all; done)
   exact fin_ret hF (res1 (v := .bool false) hF rfl rfl) ⟨by rw [hv], hH.mods⟩
  ·have hc12 := hb12; try simp only [Bool.or_eq_true, Bool.and_eq_true, Bool.or_eq_false_iff, Bool.and_eq_false_iff, Bool.not_eq_true', Bool.not_eq_false', decide_eq_true_eq, decide_eq_false_iff_not, Bool.not_true, Bool.not_false] at hc12
   refine l_atg hF ((wanted_of hF rfl rfl rfl rfl).trans (by rw [hb12]; rfl)) rfl rfl (x_faddr Tryd.underlying30 rfl ty3 (by decide) (hF.tmp 1 rfl) rfl) ?_; clear hF; intro a hF
   refine l_atg hF ((wanted_of hF rfl rfl rfl rfl).trans (by rw [hb12]; rfl)) rfl rfl (x_load1 ty3 (hF.tmp 13 rfl) (blk_cell (hH.at 1 rfl) 1 rfl)) ?_; clear hF; intro a hF
   refine wpList_on ((wanted_of hF rfl rfl rfl rfl).trans (by rw [hb12]; rfl)) fun K hK => ?_
   refine w_call hF (x_enter Tryd.func39 (by kernel_rfl) rfl (by simp only [List.map_toArray, List.map_cons, List.map_nil, hF.tmp 14 rfl] <;> rfl)) (node_calls _ m.src) rfl rfl ?_
   rintro _ w ⟨rfl, hm_⟩; refine ⟨_, rfl, ?_⟩; clear hF; intro a hF; have hH := hH.same hm_
   refine hK _ _ ?_; clear hK K
   refine l_atg hF ((wanted_of hF rfl rfl rfl rfl).trans (by rw [hb12]; rfl)) rfl rfl (x_not (hF.tmp 15 rfl)) ?_; clear hF; intro a hF
   refine l_at hF rfl rfl rfl (x_pickF (hF.tmp 12 rfl) hb12 (hF.tmp 16 rfl)) ?_; clear hF; intro a hF
   refine l_at hF rfl rfl rfl (x_move (hF.tmp 17 rfl)) ?_; clear hF; intro a hF
   refine split_bool hF 18 rfl (fun hb18 => ?_) (fun hb18 => ?_)
   ·have hc18 := hb18; try simp only [Bool.or_eq_true, Bool.and_eq_true, Bool.or_eq_false_iff, Bool.and_eq_false_iff, Bool.not_eq_true', Bool.not_eq_false', decide_eq_true_eq, decide_eq_false_iff_not, Bool.not_true, Bool.not_false] at hc18
    refine l_offg hF ((wanted_of hF rfl rfl rfl rfl).trans (by rw [hb18]; rfl)) rfl rfl ?_; clear hF; intro a hF
    refine l_offg hF ((wanted_of hF rfl rfl rfl rfl).trans (by rw [hb18]; rfl)) rfl rfl ?_; clear hF; intro a hF
    refine l_offg hF ((wanted_of hF rfl rfl rfl rfl).trans (by rw [hb18]; rfl)) rfl rfl ?_; clear hF; intro a hF
    refine l_offg hF ((wanted_of hF rfl rfl rfl rfl).trans (by rw [hb18]; rfl)) rfl rfl ?_; clear hF; intro a hF
    refine l_at hF rfl rfl rfl (x_pickT (hF.tmp 18 rfl) hb18 rfl) ?_; clear hF; intro a hF
    refine l_at hF rfl rfl rfl (x_move (hF.tmp 23 rfl)) ?_; clear hF; intro a hF
    refine l_offg hF ((wanted_of hF rfl rfl rfl rfl).trans rfl) rfl rfl ?_; clear hF; intro a hF
    refine l_offg hF ((wanted_of hF rfl rfl rfl rfl).trans rfl) rfl rfl ?_; clear hF; intro a hF
    refine l_offg hF ((wanted_of hF rfl rfl rfl rfl).trans rfl) rfl rfl ?_; clear hF; intro a hF
    refine l_at hF rfl rfl rfl (x_pickT (hF.tmp 24 rfl) rfl rfl) ?_; clear hF; intro a hF
    refine l_at hF rfl rfl rfl (x_move (hF.tmp 28 rfl)) ?_; clear hF; intro a hF
    refine l_offg hF ((wanted_of hF rfl rfl rfl rfl).trans rfl) rfl rfl ?_; clear hF; intro a hF
    refine l_offg hF ((wanted_of hF rfl rfl rfl rfl).trans rfl) rfl rfl ?_; clear hF; intro a hF
    refine l_offg hF ((wanted_of hF rfl rfl rfl rfl).trans rfl) rfl rfl ?_; clear hF; intro a hF
    refine l_at hF rfl rfl rfl (x_pickT (hF.tmp 29 rfl) rfl rfl) ?_; clear hF; intro a hF
    refine l_at hF rfl rfl rfl (x_assign (hF.tmp 33 rfl)) ?_; clear hF; intro a hF
    refine wpList_nil ?_
    refine hK3 _ _ ?_
    refine wp_cond_true (hF.tmp 3 rfl) ?_
    refine wp_seq_k fun khK6 hK6 => ?_
    refine wp_region_lit ?_
    refine l_at hF rfl rfl rfl (x_assign rfl) ?_; clear hF; intro a hF
    refine wpList_nil ?_
    refine hK6 _ _ ?_
    refine wp_ret ?_
    try simp only [Exit.then, Exit.inBlock]
    have hv : false = rightM m := by unfold rightM; first | (simp [hc7, hc12, hc18]; done) | (simp [hc7, hc12, hc18]; omega) | (simp [hc7, hc12, hc18]; intros; omega) | (rw [Bool.eq_iff_iff]; simp [hc7, hc12, hc18]; first | omega | (intros; omega)) | (simp [hc7, hc12, hc18, -List.length_eq_zero_iff]; omega) | (rw [Bool.eq_iff_iff]; simp [hc7, hc12, hc18, -List.length_eq_zero_iff]; first | omega | (intros; omega)) | (simp [hc7, hc12, hc18, -List.length_eq_zero_iff]; cases m.changes.all rightC <;> simp <;> omega) | (simp [hc7, hc12, hc18]; intros; simp_all; done)
    exact fin_ret hF (res1 (v := .bool false) hF rfl rfl) ⟨by rw [hv], hH.mods⟩
   ·have hc18 := hb18; try simp only [Bool.or_eq_true, Bool.and_eq_true, Bool.or_eq_false_iff, Bool.and_eq_false_iff, Bool.not_eq_true', Bool.not_eq_false', decide_eq_true_eq, decide_eq_false_iff_not, Bool.not_true, Bool.not_false] at hc18
    refine l_atg hF ((wanted_of hF rfl rfl rfl rfl).trans (by rw [hb18]; rfl)) rfl rfl (x_faddr Tryd.underlying30 rfl ty3 (by decide) (hF.tmp 1 rfl) rfl) ?_; clear hF; intro a hF
    refine l_atg hF ((wanted_of hF rfl rfl rfl rfl).trans (by rw [hb18]; rfl)) rfl rfl (x_load1 ty3 (hF.tmp 19 rfl) (blk_cell (hH.at 1 rfl) 2 rfl)) ?_; clear hF; intro a hF
    refine wpList_on ((wanted_of hF rfl rfl rfl rfl).trans (by rw [hb18]; rfl)) fun K hK => ?_
    refine w_call hF (x_enter Tryd.func39 (by kernel_rfl) rfl (by simp only [List.map_toArray, List.map_cons, List.map_nil, hF.tmp 20 rfl] <;> rfl)) (node_calls _ m.dst) rfl rfl ?_
    rintro _ w ⟨rfl, hm_⟩; refine ⟨_, rfl, ?_⟩; clear hF; intro a hF; have hH := hH.same hm_
    refine hK _ _ ?_; clear hK K
    refine l_atg hF ((wanted_of hF rfl rfl rfl rfl).trans (by rw [hb18]; rfl)) rfl rfl (x_not (hF.tmp 21 rfl)) ?_; clear hF; intro a hF
    refine l_at hF rfl rfl rfl (x_pickF (hF.tmp 18 rfl) hb18 (hF.tmp 22 rfl)) ?_; clear hF; intro a hF
    refine l_at hF rfl rfl rfl (x_move (hF.tmp 23 rfl)) ?_; clear hF; intro a hF
    refine split_bool hF 24 rfl (fun hb24 => ?_) (fun hb24 => ?_)
    ·have hc24 := hb24; try simp only [Bool.or_eq_true, Bool.and_eq_true, Bool.or_eq_false_iff, Bool.and_eq_false_iff, Bool.not_eq_true', Bool.not_eq_false', decide_eq_true_eq, decide_eq_false_iff_not, Bool.not_true, Bool.not_false] at hc24
     refine l_offg hF ((wanted_of hF rfl rfl rfl rfl).trans (by rw [hb24]; rfl)) rfl rfl ?_; clear hF; intro a hF
     refine l_offg hF ((wanted_of hF rfl rfl rfl rfl).trans (by rw [hb24]; rfl)) rfl rfl ?_; clear hF; intro a hF
     refine l_offg hF ((wanted_of hF rfl rfl rfl rfl).trans (by rw [hb24]; rfl)) rfl rfl ?_; clear hF; intro a hF
     refine l_at hF rfl rfl rfl (x_pickT (hF.tmp 24 rfl) hb24 rfl) ?_; clear hF; intro a hF
     refine l_at hF rfl rfl rfl (x_move (hF.tmp 28 rfl)) ?_; clear hF; intro a hF
     refine l_offg hF ((wanted_of hF rfl rfl rfl rfl).trans rfl) rfl rfl ?_; clear hF; intro a hF
     refine l_offg hF ((wanted_of hF rfl rfl rfl rfl).trans rfl) rfl rfl ?_; clear hF; intro a hF
     refine l_offg hF ((wanted_of hF rfl rfl rfl rfl).trans rfl) rfl rfl ?_; clear hF; intro a hF
     refine l_at hF rfl rfl rfl (x_pickT (hF.tmp 29 rfl) rfl rfl) ?_; clear hF; intro a hF
     refine l_at hF rfl rfl rfl (x_assign (hF.tmp 33 rfl)) ?_; clear hF; intro a hF
     refine wpList_nil ?_
     refine hK3 _ _ ?_
     refine wp_cond_true (hF.tmp 3 rfl) ?_
     refine wp_seq_k fun khK7 hK7 => ?_
     refine wp_region_lit ?_
     refine l_at hF rfl rfl rfl (x_assign rfl) ?_; clear hF; intro a hF
     refine wpList_nil ?_
     refine hK7 _ _ ?_
     refine wp_ret ?_
     try simp only [Exit.then, Exit.inBlock]
     have hv : false = rightM m := by unfold rightM; first | (simp [hc7, hc12, hc18, hc24]; done) | (simp [hc7, hc12, hc18, hc24]; omega) | (simp [hc7, hc12, hc18, hc24]; intros; omega) | (rw [Bool.eq_iff_iff]; simp [hc7, hc12, hc18, hc24]; first | omega | (intros; omega)) | (simp [hc7, hc12, hc18, hc24, -List.length_eq_zero_iff]; omega) | (rw [Bool.eq_iff_iff]; simp [hc7, hc12, hc18, hc24, -List.length_eq_zero_iff]; first | omega | (intros; omega)) | (simp [hc7, hc12, hc18, hc24, -List.length_eq_zero_iff]; cases m.changes.all rightC <;> simp <;> omega) | (simp [hc7, hc12, hc18, hc24]; intros; simp_all; done)
     exact fin_ret hF (res1 (v := .bool false) hF rfl rfl) ⟨by rw [hv], hH.mods⟩
    ·have hc24 := hb24; try simp only [Bool.or_eq_true, Bool.and_eq_true, Bool.or_eq_false_iff, Bool.and_eq_false_iff, Bool.not_eq_true', Bool.not_eq_false', decide_eq_true_eq, decide_eq_false_iff_not, Bool.not_true, Bool.not_false] at hc24
     refine l_atg hF ((wanted_of hF rfl rfl rfl rfl).trans (by rw [hb24]; rfl)) rfl rfl (x_faddr Tryd.underlying30 rfl ty3 (by decide) (hF.tmp 1 rfl) rfl) ?_; clear hF; intro a hF
     refine l_atg hF ((wanted_of hF rfl rfl rfl rfl).trans (by rw [hb24]; rfl)) rfl rfl (x_load1 ty3 (hF.tmp 25 rfl) (blk_cell (hH.at 1 rfl) 3 rfl)) ?_; clear hF; intro a hF
     refine l_atg hF ((wanted_of hF rfl rfl rfl rfl).trans (by rw [hb24]; rfl)) rfl rfl (x_lss (hF.tmp 26 rfl) rfl) ?_; clear hF; intro a hF
     refine l_at hF rfl rfl rfl (x_pickF (hF.tmp 24 rfl) hb24 (hF.tmp 27 rfl)) ?_; clear hF; intro a hF
     refine l_at hF rfl rfl rfl (x_move (hF.tmp 28 rfl)) ?_; clear hF; intro a hF
     refine split_bool hF 29 rfl (fun hb29 => ?_) (fun hb29 => ?_)
     ·have hc29 := hb29; try simp only [Bool.or_eq_true, Bool.and_eq_true, Bool.or_eq_false_iff, Bool.and_eq_false_iff, Bool.not_eq_true', Bool.not_eq_false', decide_eq_true_eq, decide_eq_false_iff_not, Bool.not_true, Bool.not_false] at hc29
      refine l_offg hF ((wanted_of hF rfl rfl rfl rfl).trans (by rw [hb29]; rfl)) rfl rfl ?_; clear hF; intro a hF
      refine l_offg hF ((wanted_of hF rfl rfl rfl rfl).trans (by rw [hb29]; rfl)) rfl rfl ?_; clear hF; intro a hF
      refine l_offg hF ((wanted_of hF rfl rfl rfl rfl).trans (by rw [hb29]; rfl)) rfl rfl ?_; clear hF; intro a hF
      refine l_at hF rfl rfl rfl (x_pickT (hF.tmp 29 rfl) hb29 rfl) ?_; clear hF; intro a hF
      refine l_at hF rfl rfl rfl (x_assign (hF.tmp 33 rfl)) ?_; clear hF; intro a hF
      refine wpList_nil ?_
      refine hK3 _ _ ?_
      refine wp_cond_true (hF.tmp 3 rfl) ?_
      refine wp_seq_k fun khK8 hK8 => ?_
      refine wp_region_lit ?_
      refine l_at hF rfl rfl rfl (x_assign rfl) ?_; clear hF; intro a hF
      refine wpList_nil ?_
      refine hK8 _ _ ?_
      refine wp_ret ?_
      try simp only [Exit.then, Exit.inBlock]
      have hv : false = rightM m := by unfold rightM; first | (simp [hc7, hc12, hc18, hc24, hc29]; done) | (simp [hc7, hc12, hc18, hc24, hc29]; omega) | (simp [hc7, hc12, hc18, hc24, hc29]; intros; omega) | (rw [Bool.eq_iff_iff]; simp [hc7, hc12, hc18, hc24, hc29]; first | omega | (intros; omega)) | (simp [hc7, hc12, hc18, hc24, hc29, -List.length_eq_zero_iff]; omega) | (rw [Bool.eq_iff_iff]; simp [hc7, hc12, hc18, hc24, hc29, -List.length_eq_zero_iff]; first | omega | (intros; omega)) | (simp [hc7, hc12, hc18, hc24, hc29, -List.length_eq_zero_iff]; cases m.changes.all rightC <;> simp <;> omega) | (simp [hc7, hc12, hc18, hc24, hc29]; intros; simp_all; done)
      exact fin_ret hF (res1 (v := .bool false) hF rfl rfl) ⟨by rw [hv], hH.mods⟩
     ·have hc29 := hb29; try simp only [Bool.or_eq_true, Bool.and_eq_true, Bool.or_eq_false_iff, Bool.and_eq_false_iff, Bool.not_eq_true', Bool.not_eq_false', decide_eq_true_eq, decide_eq_false_iff_not, Bool.not_true, Bool.not_false] at hc29
      refine l_atg hF ((wanted_of hF rfl rfl rfl rfl).trans (by rw [hb29]; rfl)) rfl rfl (x_faddr Tryd.underlying30 rfl ty3 (by decide) (hF.tmp 1 rfl) rfl) ?_; clear hF; intro a hF
      refine l_atg hF ((wanted_of hF rfl rfl rfl rfl).trans (by rw [hb29]; rfl)) rfl rfl (x_load1 ty3 (hF.tmp 30 rfl) (blk_cell (hH.at 1 rfl) 3 rfl)) ?_; clear hF; intro a hF
      refine l_atg hF ((wanted_of hF rfl rfl rfl rfl).trans (by rw [hb29]; rfl)) rfl rfl (x_gtr (hF.tmp 31 rfl) rfl) ?_; clear hF; intro a hF
      refine l_at hF rfl rfl rfl (x_pickF (hF.tmp 29 rfl) hb29 (hF.tmp 32 rfl)) ?_; clear hF; intro a hF
      refine l_at hF rfl rfl rfl (x_assign (hF.tmp 33 rfl)) ?_; clear hF; intro a hF
      refine wpList_nil ?_
      refine hK3 _ _ ?_
      refine wp_cond_split (hF.tmp 3 rfl) (fun hc3 => ?_) (fun hc3 => ?_)
      ·have hk3_1 := hc3; try simp only [Bool.or_eq_true, Bool.and_eq_true, Bool.or_eq_false_iff, Bool.and_eq_false_iff, Bool.not_eq_true', Bool.not_eq_false', decide_eq_true_eq, decide_eq_false_iff_not, Bool.not_true, Bool.not_false] at hc3
       refine wp_seq_k fun khK9 hK9 => ?_
       refine wp_region_lit ?_
       refine l_at hF rfl rfl rfl (x_assign rfl) ?_; clear hF; intro a hF
       refine wpList_nil ?_
       refine hK9 _ _ ?_
       refine wp_ret ?_
       try simp only [Exit.then, Exit.inBlock]
       have hv : false = rightM m := by unfold rightM; first | (simp [hc7, hc12, hc18, hc24, hc29, hc3]; done) | (simp [hc7, hc12, hc18, hc24, hc29, hc3]; omega) | (simp [hc7, hc12, hc18, hc24, hc29, hc3]; intros; omega) | (rw [Bool.eq_iff_iff]; simp [hc7, hc12, hc18, hc24, hc29, hc3]; first | omega | (intros; omega)) | (simp [hc7, hc12, hc18, hc24, hc29, hc3, -List.length_eq_zero_iff]; omega) | (rw [Bool.eq_iff_iff]; simp [hc7, hc12, hc18, hc24, hc29, hc3, -List.length_eq_zero_iff]; first | omega | (intros; omega)) | (simp [hc7, hc12, hc18, hc24, hc29, hc3, -List.length_eq_zero_iff]; cases m.changes.all rightC <;> simp <;> omega) | (simp [hc7, hc12, hc18, hc24, hc29, hc3]; intros; simp_all; done)
       exact fin_ret hF (res1 (v := .bool false) hF rfl rfl) ⟨by rw [hv], hH.mods⟩
      ·have hk3_2 := hc3; try simp only [Bool.or_eq_true, Bool.and_eq_true, Bool.or_eq_false_iff, Bool.and_eq_false_iff, Bool.not_eq_true', Bool.not_eq_false', decide_eq_true_eq, decide_eq_false_iff_not, Bool.not_true, Bool.not_false] at hc3
       refine wp_seq_k fun khK10 hK10 => ?_
       refine wp_region_lit ?_
       refine l_at hF rfl rfl rfl (x_faddr Tryd.underlying30 rfl ty26 (by decide) (hF.tmp 1 rfl) rfl) ?_; clear hF; intro a hF
       refine l_at hF rfl rfl rfl (x_load1 ty26 (hF.tmp 35 rfl) (blk_cell (hH.at 1 rfl) 0 rfl)) ?_; clear hF; intro a hF
       refine l_at hF rfl rfl rfl (x_neq (hF.tmp 36 rfl) rfl) ?_; clear hF; intro a hF
       refine l_at hF rfl rfl rfl (x_assign (hF.tmp 37 rfl)) ?_; clear hF; intro a hF
       refine wpList_nil ?_
       refine hK10 _ _ ?_
       refine wp_cond_split (hF.tmp 34 rfl) (fun hc34 => ?_) (fun hc34 => ?_)
       ·have hk34_3 := hc34; try simp only [Bool.or_eq_true, Bool.and_eq_true, Bool.or_eq_false_iff, Bool.and_eq_false_iff, Bool.not_eq_true', Bool.not_eq_false', decide_eq_true_eq, decide_eq_false_iff_not, Bool.not_true, Bool.not_false] at hc34
        refine wp_seq_k fun khK11 hK11 => ?_
        refine wp_region_lit ?_
        refine l_at hF rfl rfl rfl (x_faddr Tryd.underlying30 rfl ty27 (by decide) (hF.tmp 1 rfl) rfl) ?_; clear hF; intro a hF
        refine l_at hF rfl rfl rfl (x_load1 ty27 (hF.tmp 38 rfl) (blk_cell (hH.at 1 rfl) 4 rfl)) ?_; clear hF; intro a hF
        refine l_at hF rfl rfl rfl (x_len_slice Tryd.underlying27 (hF.tmp 39 rfl)) ?_; clear hF; intro a hF
        refine l_at hF rfl rfl rfl (x_eql (hF.tmp 40 rfl) rfl) ?_; clear hF; intro a hF
        refine l_at hF rfl rfl rfl (x_move (hF.tmp 41 rfl)) ?_; clear hF; intro a hF
        refine split_bool hF 42 rfl (fun hb42 => ?_) (fun hb42 => ?_)
        ·have hc42 := hb42; try simp only [Bool.or_eq_true, Bool.and_eq_true, Bool.or_eq_false_iff, Bool.and_eq_false_iff, Bool.not_eq_true', Bool.not_eq_false', decide_eq_true_eq, decide_eq_false_iff_not, Bool.not_true, Bool.not_false] at hc42
         refine l_atg hF ((wanted_of hF rfl rfl rfl rfl).trans (by rw [hb42]; rfl)) rfl rfl (x_faddr Tryd.underlying30 rfl ty28 (by decide) (hF.tmp 1 rfl) rfl) ?_; clear hF; intro a hF
         refine l_atg hF ((wanted_of hF rfl rfl rfl rfl).trans (by rw [hb42]; rfl)) rfl rfl (x_load1 ty28 (hF.tmp 43 rfl) (blk_cell (hH.at 1 rfl) 5 rfl)) ?_; clear hF; intro a hF
         refine l_atg hF ((wanted_of hF rfl rfl rfl rfl).trans (by rw [hb42]; rfl)) rfl rfl (x_len_slice Tryd.underlying28 (hF.tmp 44 rfl)) ?_; clear hF; intro a hF
         refine l_atg hF ((wanted_of hF rfl rfl rfl rfl).trans (by rw [hb42]; rfl)) rfl rfl (x_eql (hF.tmp 45 rfl) rfl) ?_; clear hF; intro a hF
         refine l_at hF rfl rfl rfl (x_pickT (hF.tmp 42 rfl) hb42 (hF.tmp 46 rfl)) ?_; clear hF; intro a hF
         refine l_at hF rfl rfl rfl (x_assign (hF.tmp 47 rfl)) ?_; clear hF; intro a hF
         refine wpList_nil ?_
         refine hK11 _ _ ?_
         refine wp_ret ?_
         try simp only [Exit.then, Exit.inBlock]
         have hv : (decide ((m.changes.length : Int) = 0)) = rightM m := by unfold rightM; first | (simp [hc7, hc12, hc18, hc24, hc29, hc3, hc34, hc42]; done) | (simp [hc7, hc12, hc18, hc24, hc29, hc3, hc34, hc42]; omega) | (simp [hc7, hc12, hc18, hc24, hc29, hc3, hc34, hc42]; intros; omega) | (rw [Bool.eq_iff_iff]; simp [hc7, hc12, hc18, hc24, hc29, hc3, hc34, hc42]; first | omega | (intros; omega)) | (simp [hc7, hc12, hc18, hc24, hc29, hc3, hc34, hc42, -List.length_eq_zero_iff]; omega) | (rw [Bool.eq_iff_iff]; simp [hc7, hc12, hc18, hc24, hc29, hc3, hc34, hc42, -List.length_eq_zero_iff]; first | omega | (intros; omega)) | (simp [hc7, hc12, hc18, hc24, hc29, hc3, hc34, hc42, -List.length_eq_zero_iff]; cases m.changes.all rightC <;> simp <;> omega) | (simp [hc7, hc12, hc18, hc24, hc29, hc3, hc34, hc42]; intros; simp_all; done)
         exact fin_ret hF (res1 (v := .bool (decide ((m.changes.length : Int) = 0))) hF rfl rfl) ⟨by rw [hv], hH.mods⟩
        ·have hc42 := hb42; try simp only [Bool.or_eq_true, Bool.and_eq_true, Bool.or_eq_false_iff, Bool.and_eq_false_iff, Bool.not_eq_true', Bool.not_eq_false', decide_eq_true_eq, decide_eq_false_iff_not, Bool.not_true, Bool.not_false] at hc42
         refine l_offg hF ((wanted_of hF rfl rfl rfl rfl).trans (by rw [hb42]; rfl)) rfl rfl ?_; clear hF; intro a hF
         refine l_offg hF ((wanted_of hF rfl rfl rfl rfl).trans (by rw [hb42]; rfl)) rfl rfl ?_; clear hF; intro a hF
         refine l_offg hF ((wanted_of hF rfl rfl rfl rfl).trans (by rw [hb42]; rfl)) rfl rfl ?_; clear hF; intro a hF
         refine l_offg hF ((wanted_of hF rfl rfl rfl rfl).trans (by rw [hb42]; rfl)) rfl rfl ?_; clear hF; intro a hF
         refine l_at hF rfl rfl rfl (x_pickF (hF.tmp 42 rfl) hb42 rfl) ?_; clear hF; intro a hF
         refine l_at hF rfl rfl rfl (x_assign (hF.tmp 47 rfl)) ?_; clear hF; intro a hF
         refine wpList_nil ?_
         refine hK11 _ _ ?_
         refine wp_ret ?_
         try simp only [Exit.then, Exit.inBlock]
         have hv : false = rightM m := by unfold rightM; first | (simp [hc7, hc12, hc18, hc24, hc29, hc3, hc34, hc42]; done) | (simp [hc7, hc12, hc18, hc24, hc29, hc3, hc34, hc42]; omega) | (simp [hc7, hc12, hc18, hc24, hc29, hc3, hc34, hc42]; intros; omega) | (rw [Bool.eq_iff_iff]; simp [hc7, hc12, hc18, hc24, hc29, hc3, hc34, hc42]; first | omega | (intros; omega)) | (simp [hc7, hc12, hc18, hc24, hc29, hc3, hc34, hc42, -List.length_eq_zero_iff]; omega) | (rw [Bool.eq_iff_iff]; simp [hc7, hc12, hc18, hc24, hc29, hc3, hc34, hc42, -List.length_eq_zero_iff]; first | omega | (intros; omega)) | (simp [hc7, hc12, hc18, hc24, hc29, hc3, hc34, hc42, -List.length_eq_zero_iff]; cases m.changes.all rightC <;> simp <;> omega) | (simp [hc7, hc12, hc18, hc24, hc29, hc3, hc34, hc42]; intros; simp_all; done)
         exact fin_ret hF (res1 (v := .bool false) hF rfl rfl) ⟨by rw [hv], hH.mods⟩
       ·have hk34_4 := hc34; try simp only [Bool.or_eq_true, Bool.and_eq_true, Bool.or_eq_false_iff, Bool.and_eq_false_iff, Bool.not_eq_true', Bool.not_eq_false', decide_eq_true_eq, decide_eq_false_iff_not, Bool.not_true, Bool.not_false] at hc34
        refine wp_skip ?_
        refine hK2 _ _ ?_
        refine wp_seq_k fun khK12 hK12 => ?_
        refine wp_region_lit ?_
        refine l_at hF rfl rfl rfl (x_faddr Tryd.underlying30 rfl ty27 (by decide) (hF.tmp 1 rfl) rfl) ?_; clear hF; intro a hF
        refine l_at hF rfl rfl rfl (x_load1 ty27 (hF.tmp 48 rfl) (blk_cell (hH.at 1 rfl) 4 rfl)) ?_; clear hF; intro a hF
        refine l_at hF rfl rfl rfl (x_faddr Tryd.underlying30 rfl ty3 (by decide) (hF.tmp 1 rfl) rfl) ?_; clear hF; intro a hF
        refine l_at hF rfl rfl rfl (x_load1 ty3 (hF.tmp 50 rfl) (blk_cell (hH.at 1 rfl) 2 rfl)) ?_; clear hF; intro a hF
        refine wpList_plain rfl fun K hK => ?_
        refine w_call hF (x_enter Tryd.func40 (by kernel_rfl) rfl (by simp only [List.map_toArray, List.map_cons, List.map_nil, hF.tmp 49 rfl, hF.tmp 51 rfl] <;> rfl)) (nodes_calls _ ((hH.rd 900 rfl)) m.dst) rfl rfl ?_
        rintro _ w ⟨rfl, hm_⟩; refine ⟨_, rfl, ?_⟩; clear hF; intro a hF; have hH := hH.same hm_
        refine hK _ _ ?_; clear hK K
        refine l_at hF rfl rfl rfl (x_move (hF.tmp 52 rfl)) ?_; clear hF; intro a hF
        refine split_bool hF 53 rfl (fun hb53 => ?_) (fun hb53 => ?_)
        ·have hc53 := hb53; try simp only [Bool.or_eq_true, Bool.and_eq_true, Bool.or_eq_false_iff, Bool.and_eq_false_iff, Bool.not_eq_true', Bool.not_eq_false', decide_eq_true_eq, decide_eq_false_iff_not, Bool.not_true, Bool.not_false] at hc53
         refine l_atg hF ((wanted_of hF rfl rfl rfl rfl).trans (by rw [hb53]; rfl)) rfl rfl (x_faddr Tryd.underlying30 rfl ty28 (by decide) (hF.tmp 1 rfl) rfl) ?_; clear hF; intro a hF
         refine l_atg hF ((wanted_of hF rfl rfl rfl rfl).trans (by rw [hb53]; rfl)) rfl rfl (x_load1 ty28 (hF.tmp 54 rfl) (blk_cell (hH.at 1 rfl) 5 rfl)) ?_; clear hF; intro a hF
         refine l_atg hF ((wanted_of hF rfl rfl rfl rfl).trans (by rw [hb53]; rfl)) rfl rfl (x_len_slice Tryd.underlying28 (hF.tmp 55 rfl)) ?_; clear hF; intro a hF
         refine l_atg hF ((wanted_of hF rfl rfl rfl rfl).trans (by rw [hb53]; rfl)) rfl rfl (x_leq (hF.tmp 56 rfl) rfl) ?_; clear hF; intro a hF
         refine l_at hF rfl rfl rfl (x_pickT (hF.tmp 53 rfl) hb53 (hF.tmp 57 rfl)) ?_; clear hF; intro a hF
         refine l_at hF rfl rfl rfl (x_move (hF.tmp 58 rfl)) ?_; clear hF; intro a hF
         refine split_bool hF 59 rfl (fun hb59 => ?_) (fun hb59 => ?_)
         ·have hc59 := hb59; try simp only [Bool.or_eq_true, Bool.and_eq_true, Bool.or_eq_false_iff, Bool.and_eq_false_iff, Bool.not_eq_true', Bool.not_eq_false', decide_eq_true_eq, decide_eq_false_iff_not, Bool.not_true, Bool.not_false] at hc59
          refine l_atg hF ((wanted_of hF rfl rfl rfl rfl).trans (by rw [hb59]; rfl)) rfl rfl (x_faddr Tryd.underlying30 rfl ty28 (by decide) (hF.tmp 1 rfl) rfl) ?_; clear hF; intro a hF
          refine l_atg hF ((wanted_of hF rfl rfl rfl rfl).trans (by rw [hb59]; rfl)) rfl rfl (x_load1 ty28 (hF.tmp 60 rfl) (blk_cell (hH.at 1 rfl) 5 rfl)) ?_; clear hF; intro a hF
          refine wpList_on ((wanted_of hF rfl rfl rfl rfl).trans (by rw [hb59]; rfl)) fun K hK => ?_
          refine w_call hF (x_enter Tryd.func41 (by kernel_rfl) rfl (by simp only [List.map_toArray, List.map_cons, List.map_nil, hF.tmp 61 rfl] <;> rfl)) (containsC_calls _ (hH.holds 990 _ rfl) ((hH.rd 901 rfl)) hb.changes) rfl rfl ?_
          rintro _ w ⟨rfl, hm_⟩; refine ⟨_, rfl, ?_⟩; clear hF; intro a hF; have hH := hH.same hm_
          refine hK _ _ ?_; clear hK K
          refine l_atg hF ((wanted_of hF rfl rfl rfl rfl).trans (by rw [hb59]; rfl)) rfl rfl (x_not (hF.tmp 62 rfl)) ?_; clear hF; intro a hF
          refine l_at hF rfl rfl rfl (x_pickT (hF.tmp 59 rfl) hb59 (hF.tmp 63 rfl)) ?_; clear hF; intro a hF
          refine l_at hF rfl rfl rfl (x_assign (hF.tmp 64 rfl)) ?_; clear hF; intro a hF
          refine wpList_nil ?_
          refine hK12 _ _ ?_
          refine wp_ret ?_
          try simp only [Exit.then, Exit.inBlock]
          have hv : (!(!m.changes.all rightC)) = rightM m := by unfold rightM; first | (simp [hc7, hc12, hc18, hc24, hc29, hc3, hc34, hc53, hc59]; done) | (simp [hc7, hc12, hc18, hc24, hc29, hc3, hc34, hc53, hc59]; omega) | (simp [hc7, hc12, hc18, hc24, hc29, hc3, hc34, hc53, hc59]; intros; omega) | (rw [Bool.eq_iff_iff]; simp [hc7, hc12, hc18, hc24, hc29, hc3, hc34, hc53, hc59]; first | omega | (intros; omega)) | (simp [hc7, hc12, hc18, hc24, hc29, hc3, hc34, hc53, hc59, -List.length_eq_zero_iff]; omega) | (rw [Bool.eq_iff_iff]; simp [hc7, hc12, hc18, hc24, hc29, hc3, hc34, hc53, hc59, -List.length_eq_zero_iff]; first | omega | (intros; omega)) | (simp [hc7, hc12, hc18, hc24, hc29, hc3, hc34, hc53, hc59, -List.length_eq_zero_iff]; cases m.changes.all rightC <;> simp <;> omega) | (simp [hc7, hc12, hc18, hc24, hc29, hc3, hc34, hc53, hc59]; intros; simp_all; done)
          exact fin_ret hF (res1 (v := .bool (!(!m.changes.all rightC))) hF rfl rfl) ⟨by rw [hv], hH.mods⟩
         ·have hc59 := hb59; try simp only [Bool.or_eq_true, Bool.and_eq_true, Bool.or_eq_false_iff, Bool.and_eq_false_iff, Bool.not_eq_true', Bool.not_eq_false', decide_eq_true_eq, decide_eq_false_iff_not, Bool.not_true, Bool.not_false] at hc59
          refine l_offg hF ((wanted_of hF rfl rfl rfl rfl).trans (by rw [hb59]; rfl)) rfl rfl ?_; clear hF; intro a hF
          refine l_offg hF ((wanted_of hF rfl rfl rfl rfl).trans (by rw [hb59]; rfl)) rfl rfl ?_; clear hF; intro a hF
          refine l_offg hF ((wanted_of hF rfl rfl rfl rfl).trans (by rw [hb59]; rfl)) rfl rfl ?_; clear hF; intro a hF
          refine l_offg hF ((wanted_of hF rfl rfl rfl rfl).trans (by rw [hb59]; rfl)) rfl rfl ?_; clear hF; intro a hF
          refine l_at hF rfl rfl rfl (x_pickF (hF.tmp 59 rfl) hb59 rfl) ?_; clear hF; intro a hF
          refine l_at hF rfl rfl rfl (x_assign (hF.tmp 64 rfl)) ?_; clear hF; intro a hF
          refine wpList_nil ?_
          refine hK12 _ _ ?_
          refine wp_ret ?_
          try simp only [Exit.then, Exit.inBlock]
          have hv : false = rightM m := by unfold rightM; first | (simp [hc7, hc12, hc18, hc24, hc29, hc3, hc34, hc53, hc59]; done) | (simp [hc7, hc12, hc18, hc24, hc29, hc3, hc34, hc53, hc59]; omega) | (simp [hc7, hc12, hc18, hc24, hc29, hc3, hc34, hc53, hc59]; intros; omega) | (rw [Bool.eq_iff_iff]; simp [hc7, hc12, hc18, hc24, hc29, hc3, hc34, hc53, hc59]; first | omega | (intros; omega)) | (simp [hc7, hc12, hc18, hc24, hc29, hc3, hc34, hc53, hc59, -List.length_eq_zero_iff]; omega) | (rw [Bool.eq_iff_iff]; simp [hc7, hc12, hc18, hc24, hc29, hc3, hc34, hc53, hc59, -List.length_eq_zero_iff]; first | omega | (intros; omega)) | (simp [hc7, hc12, hc18, hc24, hc29, hc3, hc34, hc53, hc59, -List.length_eq_zero_iff]; cases m.changes.all rightC <;> simp <;> omega) | (simp [hc7, hc12, hc18, hc24, hc29, hc3, hc34, hc53, hc59]; intros; simp_all; done)
          exact fin_ret hF (res1 (v := .bool false) hF rfl rfl) ⟨by rw [hv], hH.mods⟩
        ·have hc53 := hb53; try simp only [Bool.or_eq_true, Bool.and_eq_true, Bool.or_eq_false_iff, Bool.and_eq_false_iff, Bool.not_eq_true', Bool.not_eq_false', decide_eq_true_eq, decide_eq_false_iff_not, Bool.not_true, Bool.not_false] at hc53
         refine l_offg hF ((wanted_of hF rfl rfl rfl rfl).trans (by rw [hb53]; rfl)) rfl rfl ?_; clear hF; intro a hF
         refine l_offg hF ((wanted_of hF rfl rfl rfl rfl).trans (by rw [hb53]; rfl)) rfl rfl ?_; clear hF; intro a hF
         refine l_offg hF ((wanted_of hF rfl rfl rfl rfl).trans (by rw [hb53]; rfl)) rfl rfl ?_; clear hF; intro a hF
         refine l_offg hF ((wanted_of hF rfl rfl rfl rfl).trans (by rw [hb53]; rfl)) rfl rfl ?_; clear hF; intro a hF
         refine l_at hF rfl rfl rfl (x_pickF (hF.tmp 53 rfl) hb53 rfl) ?_; clear hF; intro a hF
         refine l_at hF rfl rfl rfl (x_move (hF.tmp 58 rfl)) ?_; clear hF; intro a hF
         refine l_offg hF ((wanted_of hF rfl rfl rfl rfl).trans rfl) rfl rfl ?_; clear hF; intro a hF
         refine l_offg hF ((wanted_of hF rfl rfl rfl rfl).trans rfl) rfl rfl ?_; clear hF; intro a hF
         refine l_offg hF ((wanted_of hF rfl rfl rfl rfl).trans rfl) rfl rfl ?_; clear hF; intro a hF
         refine l_offg hF ((wanted_of hF rfl rfl rfl rfl).trans rfl) rfl rfl ?_; clear hF; intro a hF
         refine l_at hF rfl rfl rfl (x_pickF (hF.tmp 59 rfl) rfl rfl) ?_; clear hF; intro a hF
         refine l_at hF rfl rfl rfl (x_assign (hF.tmp 64 rfl)) ?_; clear hF; intro a hF
         refine wpList_nil ?_
         refine hK12 _ _ ?_
         refine wp_ret ?_
         try simp only [Exit.then, Exit.inBlock]
         have hv : false = rightM m := by unfold rightM; first | (simp [hc7, hc12, hc18, hc24, hc29, hc3, hc34, hc53]; done) | (simp [hc7, hc12, hc18, hc24, hc29, hc3, hc34, hc53]; omega) | (simp [hc7, hc12, hc18, hc24, hc29, hc3, hc34, hc53]; intros; omega) | (rw [Bool.eq_iff_iff]; simp [hc7, hc12, hc18, hc24, hc29, hc3, hc34, hc53]; first | omega | (intros; omega)) | (simp [hc7, hc12, hc18, hc24, hc29, hc3, hc34, hc53, -List.length_eq_zero_iff]; omega) | (rw [Bool.eq_iff_iff]; simp [hc7, hc12, hc18, hc24, hc29, hc3, hc34, hc53, -List.length_eq_zero_iff]; first | omega | (intros; omega)) | (simp [hc7, hc12, hc18, hc24, hc29, hc3, hc34, hc53, -List.length_eq_zero_iff]; cases m.changes.all rightC <;> simp <;> omega) | (simp [hc7, hc12, hc18, hc24, hc29, hc3, hc34, hc53]; intros; simp_all; done)
         exact fin_ret hF (res1 (v := .bool false) hF rfl rfl) ⟨by rw [hv], hH.mods⟩
set_option maxRecDepth 100000 in
set_option maxHeartbeats 1000000 in
theorem encM_calls (w0 : World) {pp : Bool} (hL : LibAt pp w0) {m : MessageD} {okm0 : Nat → Prop} {Am0 : Option Addr} {cm0 : Nat} (hrm0 : Rd (Rep.int .i64) w0 okm0 Am0 m.nodes cm0) {okm1 : Nat → Prop} {Am1 : Option Addr} {cm1 : Nat} (hrm1 : Rd ChgE w0 okm1 Am1 m.changes cm1) (hb : MessageB m) : Calls Tryd.prog 21 #[.agg #[.int .i64 m.kind, .int .i64 m.src, .int .i64 m.dst, .int .i64 m.tx, .slice Am0 m.nodes.length cm0, .slice Am1 m.changes.length cm1]] w0 fun e w' => ∃ v, e = .returned (.tuple #[v, .int .i64 (encME m)]) ∧ Mods (fun _ => False) w0 w' ∧ RowOut (.int .u8) 5 w0 w' v (encM m) := by
 refine calls_of_wp Tryd.func21 rfl ?_
 have hF := Fr.enter #[.agg #[.int .i64 m.kind, .int .i64 m.src, .int .i64 m.dst, .int .i64 m.tx, .slice Am0 m.nodes.length cm0, .slice Am1 m.changes.length cm1]] 98 (slotsOf [.agg #[.int .i64 m.kind, .int .i64 m.src, .int .i64 m.dst, .int .i64 m.tx, .slice Am0 m.nodes.length cm0, .slice Am1 m.changes.length cm1]] 0) (Nat.le_of_ble_eq_true rfl) (fun i v h => by have h2 := (get_slotsOf _ 0 i v h).2; simpa only [List.getElem?_toArray, Nat.sub_zero] using h2)
 have hH := Hp.nil (fun _ => False) w0
 rw [Tryd.ntmps21]
 revert hF; generalize (⟨(#[.agg #[.int .i64 m.kind, .int .i64 m.src, .int .i64 m.dst, .int .i64 m.tx, .slice Am0 m.nodes.length cm0, .slice Am1 m.changes.length cm1]] : Array Value) ++ Array.replicate (98 - (#[.agg #[.int .i64 m.kind, .int .i64 m.src, .int .i64 m.dst, .int .i64 m.tx, .slice Am0 m.nodes.length cm0, .slice Am1 m.changes.length cm1]] : Array Value).size) undef, []⟩ : Act) = a; intro hF
 have hH := hH.arg 900 hrm0.all (fun _ h => ⟨h, fun h => h⟩)
 have hlem0 := hrm0.le; unfold maxLen at hlem0
 have hH := hH.arg 901 hrm1.all (fun _ h => ⟨h, fun h => h⟩)
 have hlem1 := hrm1.le; unfold maxLen at hlem1
 have hH := hH.libN 990 hL
 refine wp_seq_k fun khK1 hK1 => ?_
 refine wp_region_lit ?_
 refine wpList_plain rfl fun K hK => ?_
 refine w_box 1 hF hH rfl (hF.tmp 0 rfl) ?_
 clear hF hH; intro a w b1 hF hH
 refine hK _ _ ?_; clear hK K
 refine l_at hF rfl rfl rfl (x_assign rfl) ?_; clear hF; intro a hF
 refine l_at hF rfl rfl rfl (x_assign rfl) ?_; clear hF; intro a hF
 refine wpList_nil ?_
 refine hK1 _ _ ?_
 refine wp_seq_k fun khK2 hK2 => ?_
 refine wp_seq_k fun khK3 hK3 => ?_
 refine wp_region_lit ?_
 refine l_at hF rfl rfl rfl (x_loadn ty30 (hF.tmp 1 rfl) rfl (blk_whole (hH.at 1 rfl))) ?_; clear hF; intro a hF
 refine wpList_plain rfl fun K hK => ?_
 refine w_call hF (x_enter Tryd.func27 (by kernel_rfl) rfl (by simp only [List.map_toArray, List.map_cons, List.map_nil, hF.tmp 15 rfl] <;> rfl)) (rightM_calls _ (hH.holds 990 _ rfl) ((hH.rd 900 rfl)) ((hH.rd 901 rfl)) hb) rfl rfl ?_
 rintro _ w ⟨rfl, hm_⟩; refine ⟨_, rfl, ?_⟩; clear hF; intro a hF; have hH := hH.same hm_
 refine hK _ _ ?_; clear hK K
 refine l_at hF rfl rfl rfl (x_not (hF.tmp 16 rfl)) ?_; clear hF; intro a hF
 refine wpList_nil ?_
 refine hK3 _ _ ?_
 refine wp_cond_split (hF.tmp 17 rfl) (fun hc17 => ?_) (fun hc17 => ?_)
 ·have hk17_1 := hc17; try simp only [Bool.or_eq_true, Bool.and_eq_true, Bool.or_eq_false_iff, Bool.and_eq_false_iff, Bool.not_eq_true', Bool.not_eq_false', decide_eq_true_eq, decide_eq_false_iff_not, Bool.not_true, Bool.not_false] at hc17
  have hz : rightM m = false := by simpa using hc17
  refine wp_seq_k fun khK4 hK4 => ?_
  refine wp_region_lit ?_
  refine l_at hF rfl rfl rfl (x_assign rfl) ?_; clear hF; intro a hF
  refine l_at hF rfl rfl rfl (x_assign rfl) ?_; clear hF; intro a hF
  refine wpList_nil ?_
  refine hK4 _ _ ?_
  refine wp_ret ?_
  try simp only [Exit.then, Exit.inBlock]
  exact fin_ret hF (res2 hF rfl rfl rfl) ⟨.slice none 0 0, by rw [encME_no hz] <;> rfl, hH.mods, by rw [encM_no hz]; exact RowOut.nil _ _ _ _⟩
 ·have hk17_2 := hc17; try simp only [Bool.or_eq_true, Bool.and_eq_true, Bool.or_eq_false_iff, Bool.and_eq_false_iff, Bool.not_eq_true', Bool.not_eq_false', decide_eq_true_eq, decide_eq_false_iff_not, Bool.not_true, Bool.not_false] at hc17
  have hr : rightM m = true := by simpa using hc17
  refine wp_skip ?_
  refine hK2 _ _ ?_
  refine wp_seq_k fun khK5 hK5 => ?_
  refine r_start [(1, .blk b1 (.cells #[.int .i64 m.kind, .int .i64 m.src, .int .i64 m.dst, .int .i64 m.tx, .slice Am0 m.nodes.length cm0, .slice Am1 m.changes.length cm1] 30 (0, 0)))] (by kernel_rfl) hH fun hH => ?_
  have hS : SL [(1, .blk b1 (.cells #[.int .i64 m.kind, .int .i64 m.src, .int .i64 m.dst, .int .i64 m.tx, .slice Am0 m.nodes.length cm0, .slice Am1 m.changes.length cm1] 30 (0, 0)))] _ := SL.of hH (sub_cons (sub_nil _) 1 rfl)
  refine r_take 0 hF rfl rfl rfl (by kernel_rfl) (by kernel_rfl) (by kernel_rfl) (fun _ _ _ h => h) rfl hS (fun w hS => x_faddr Tryd.underlying30 rfl ty26 (by decide) (hF.tmp 1 rfl) rfl) rfl ?_; clear hF; intro a hF
  refine r_take 1 hF rfl rfl rfl (by kernel_rfl) (by kernel_rfl) (by kernel_rfl) (fun _ _ _ h => h) rfl hS (fun w hS => x_load1 ty26 (hF.tmp 18 rfl) (blk_cell (SL.at_ hS 1 rfl) 0 rfl)) rfl ?_; clear hF; intro a hF
  refine r_take 2 hF rfl rfl rfl (by kernel_rfl) (by kernel_rfl) (by kernel_rfl) (fun _ _ _ h => h) rfl hS (fun w hS => x_conv Tryd.underlying5 ⟨_, Tryd.underlying26⟩ (hF.tmp 19 rfl) (wu8 (by have := (rightM_parts hr).kind; omega) (by have := (rightM_parts hr).kind; omega))) rfl ?_; clear hF; intro a hF
  refine r_take 3 hF rfl rfl rfl (by kernel_rfl) (by kernel_rfl) (by kernel_rfl) (fun _ _ _ h => h) rfl hS (fun w hS => x_faddr Tryd.underlying30 rfl ty3 (by decide) (hF.tmp 1 rfl) rfl) rfl ?_; clear hF; intro a hF
  refine r_take 4 hF rfl rfl rfl (by kernel_rfl) (by kernel_rfl) (by kernel_rfl) (fun _ _ _ h => h) rfl hS (fun w hS => x_load1 ty3 (hF.tmp 21 rfl) (blk_cell (SL.at_ hS 1 rfl) 1 rfl)) rfl ?_; clear hF; intro a hF
  refine r_take 5 hF rfl rfl rfl (by kernel_rfl) (by kernel_rfl) (by kernel_rfl) (fun _ _ _ h => h) rfl hS (fun w hS => x_conv Tryd.underlying5 ⟨_, Tryd.underlying3⟩ (hF.tmp 22 rfl) (wu8 (by have := (rightM_parts hr).src; omega) (by have := (rightM_parts hr).src; omega))) rfl ?_; clear hF; intro a hF
  refine r_take 6 hF rfl rfl rfl (by kernel_rfl) (by kernel_rfl) (by kernel_rfl) (fun _ _ _ h => h) rfl hS (fun w hS => x_faddr Tryd.underlying30 rfl ty3 (by decide) (hF.tmp 1 rfl) rfl) rfl ?_; clear hF; intro a hF
  refine r_take 7 hF rfl rfl rfl (by kernel_rfl) (by kernel_rfl) (by kernel_rfl) (fun _ _ _ h => h) rfl hS (fun w hS => x_load1 ty3 (hF.tmp 24 rfl) (blk_cell (SL.at_ hS 1 rfl) 2 rfl)) rfl ?_; clear hF; intro a hF
  refine r_take 8 hF rfl rfl rfl (by kernel_rfl) (by kernel_rfl) (by kernel_rfl) (fun _ _ _ h => h) rfl hS (fun w hS => x_conv Tryd.underlying5 ⟨_, Tryd.underlying3⟩ (hF.tmp 25 rfl) (wu8 (by have := (rightM_parts hr).dst; omega) (by have := (rightM_parts hr).dst; omega))) rfl ?_; clear hF; intro a hF
  refine r_take 11 hF rfl rfl rfl (by kernel_rfl) (by kernel_rfl) (by kernel_rfl) (fun _ _ _ h => h) rfl hS (fun w hS => x_faddr Tryd.underlying30 rfl ty3 (by decide) (hF.tmp 1 rfl) rfl) rfl ?_; clear hF; intro a hF
  refine r_take 12 hF rfl rfl rfl (by kernel_rfl) (by kernel_rfl) (by kernel_rfl) (fun _ _ _ h => h) rfl hS (fun w hS => x_load1 ty3 (hF.tmp 29 rfl) (blk_cell (SL.at_ hS 1 rfl) 3 rfl)) rfl ?_; clear hF; intro a hF
  refine r_take 13 hF rfl rfl rfl (by kernel_rfl) (by kernel_rfl) (by kernel_rfl) (fun _ _ _ h => h) rfl hS (fun w hS => x_conv Tryd.underlying64 ⟨_, Tryd.underlying3⟩ (hF.tmp 30 rfl) (wu64 (by have := (rightM_parts hr).tx; omega) (by have := (rightM_parts hr).tx; omega))) rfl ?_; clear hF; intro a hF
  refine r_do2 9 14 rfl rfl (by kernel_rfl) rfl rfl rfl rfl ?_ ?_
  ·
   refine w_lit 27 (enc := Value.int .u8) (h1 := fun _ => rfl) ([m.kind, m.src, m.dst]) hF hH rfl Tryd.underlying53 ty5 (by simp only [List.map_toArray, List.map_cons, List.map_nil, hF.tmp 20 rfl, hF.tmp 23 rfl, hF.tmp 26 rfl]; rfl) rfl (by decide) (by decide) (by kernel_rfl) ?_
   clear hF hH; intro a w b27 hF hH
   clear hS; have hS : SL _ _ := SL.of hH (sub_cons (sub_nil _) 1 rfl); refine ⟨hS, ?_⟩
   have hH := hH.freeze 27 rfl (fun kb => (Value.slice (some ⟨b27, 0, none⟩) ([m.kind, m.src, m.dst]).length ([m.kind, m.src, m.dst]).length).ownBlock = some kb) (fun kb => ⟨fun h => .inr h, fun h => h.resolve_left id⟩)
   refine r_take 10 hF rfl rfl rfl (by kernel_rfl) (by kernel_rfl) (by kernel_rfl) (fun _ _ _ h => h) rfl hS (fun w hS => x_buildS (cells := #[.int .i64 1, .slice (some ⟨b27, 0, none⟩) ([m.kind, m.src, m.dst]).length ([m.kind, m.src, m.dst]).length]) (places := #[(0, 1), (1, 1)]) Tryd.underlying71 ty71 (by kernel_rfl) (by simp only [List.map_toArray, List.map_cons, List.map_nil, hF.tmp 27 rfl] <;> rfl) rfl) rfl ?_; clear hF; intro a hF
   refine r_do 14 rfl (by kernel_rfl) rfl rfl ?_
   refine w_call hF (x_enter Tryd.func28 (by kernel_rfl) rfl (by simp only [List.map_toArray, List.map_cons, List.map_nil, hF.tmp 31 rfl] <;> rfl)) (bI_calls _ (by have := (rightM_parts hr).tx; exact ⟨by omega, by omega⟩)) rfl rfl ?_
   rintro _ w ⟨vr32, rfl, hm_, hr_⟩; refine ⟨_, rfl, ?_⟩; clear hF; intro a hF; have hH := Hp.rowOut hH 32 hm_ hr_; obtain ⟨Ar32, cr32, rfl⟩ := (hH.row 32 rfl).form
   clear hS; have hS : SL _ _ := SL.of hH (sub_cons (sub_nil _) 1 rfl); refine ⟨hS, ?_⟩
   have hH := hH.freeze 32 rfl (fun kb => (Value.slice Ar32 (bI m.tx).length cr32).ownBlock = some kb) (fun kb => ⟨fun h => .inr h, fun h => h.resolve_left id⟩)
   refine r_take 15 hF rfl rfl rfl (by kernel_rfl) (by kernel_rfl) (by kernel_rfl) (fun _ _ _ h => h) rfl hS (fun w hS => x_buildS (cells := #[.int .i64 2, .slice Ar32 (bI m.tx).length cr32]) (places := #[(0, 1), (1, 1)]) Tryd.underlying71 ty71 (by kernel_rfl) (by simp only [List.map_toArray, List.map_cons, List.map_nil, hF.tmp 32 rfl] <;> rfl) rfl) rfl ?_; clear hF; intro a hF
   refine r_do 16 rfl (by kernel_rfl) rfl rfl ?_
   refine w_litE 4 FE ([((1, [m.kind, m.src, m.dst]) : Fld), ((2, bI m.tx) : Fld)]) #[.int .i64 1, .slice (some ⟨b27, 0, none⟩) ([m.kind, m.src, m.dst]).length ([m.kind, m.src, m.dst]).length, .int .i64 2, .slice Ar32 (bI m.tx).length cr32] (fun kb => (fun kb => (Value.slice (some ⟨b27, 0, none⟩) ([m.kind, m.src, m.dst]).length ([m.kind, m.src, m.dst]).length).ownBlock = some kb) kb ∨ (fun kb => (Value.slice Ar32 (bI m.tx).length cr32).ownBlock = some kb) kb) hF hH rfl Tryd.underlying73 ty71 (by simp only [List.map_toArray, List.map_cons, List.map_nil, hF.tmp 28 rfl, hF.tmp 33 rfl] <;> rfl) rfl (by decide) (by decide) (by kernel_rfl) ((Elems.single (fld_mk (f := ((1, [m.kind, m.src, m.dst]) : Fld)) (((hH.rd 27 rfl)).move (fun _ _ _ => rfl) (fun k h _ => .inl h)))).append (Elems.single (fld_mk (f := ((2, bI m.tx) : Fld)) (((hH.rd 32 rfl)).move (fun _ _ _ => rfl) (fun k h _ => .inr h))))) (fun kb hk => hk.elim (fun h => ⟨27, _, rfl, h⟩) (fun h => ⟨32, _, rfl, h⟩)) ?_
   clear hF hH; intro a w b34 hF hH
   clear hS; have hS : SL _ _ := SL.of hH (sub_cons (sub_nil _) 1 rfl); refine ⟨hS, ?_⟩
   refine r_take 17 hF rfl rfl rfl (by kernel_rfl) (by kernel_rfl) (by kernel_rfl) (fun _ _ _ h => h) rfl hS (fun w hS => x_assign (hF.tmp 34 rfl)) rfl ?_; clear hF; intro a hF
   refine r_end (by kernel_rfl) ?_; clear hS
   refine hK5 _ _ ?_
   refine wp_seq_k fun khK6 hK6 => ?_
   refine wp_seq_k fun khK7 hK7 => ?_
   refine wp_region_lit ?_
   refine l_at hF rfl rfl rfl (x_faddr Tryd.underlying30 rfl ty26 (by decide) (hF.tmp 1 rfl) rfl) ?_; clear hF; intro a hF
   refine l_at hF rfl rfl rfl (x_load1 ty26 (hF.tmp 35 rfl) (blk_cell (hH.at 1 rfl) 0 rfl)) ?_; clear hF; intro a hF
   refine l_at hF rfl rfl rfl (x_eql (hF.tmp 36 rfl) rfl) ?_; clear hF; intro a hF
   refine wpList_nil ?_
   refine hK7 _ _ ?_
   refine wp_cond_split (hF.tmp 37 rfl) (fun hc37 => ?_) (fun hc37 => ?_)
   ·have hk37_3 := hc37; try simp only [Bool.or_eq_true, Bool.and_eq_true, Bool.or_eq_false_iff, Bool.and_eq_false_iff, Bool.not_eq_true', Bool.not_eq_false', decide_eq_true_eq, decide_eq_false_iff_not, Bool.not_true, Bool.not_false] at hc37
    have hnl := nodes_len ((rightM_parts hr).prep hc37).2.1 (by omega) (by omega)
    have hcl := ((rightM_parts hr).prep hc37).2.2.1
    refine wp_seq_k fun khK8 hK8 => ?_
    refine wp_region_lit ?_
    refine l_at hF rfl rfl rfl (x_buildS (cells := #[.int .i64 3, .slice none 0 0]) (places := #[(0, 1), (1, 1)]) Tryd.underlying71 ty71 (by kernel_rfl) (by simp only [List.map_toArray, List.map_cons, List.map_nil] <;> rfl) rfl) ?_; clear hF; intro a hF
    refine wpList_plain rfl fun K hK => ?_
    refine w_alloc 5 hF hH rfl ty71 ?_
    clear hF hH; intro a w b5 hF hH
    refine hK _ _ ?_; clear hK K
    refine wpList_plain rfl fun K hK => ?_
    refine w_storeA 5 hH ty71 rfl (hF.tmp 5 rfl) (hF.tmp 38 rfl) rfl (by simp [Value.cells, Value.oneCell']) rfl ?_
    clear hH; intro w hH
    refine hK _ _ ?_; clear hK K
    have hH := hH.row0 50 (.int .u8) 5
    refine wpList_nil ?_
    refine hK8 _ _ ?_
    refine wp_seq_k fun khK9 hK9 => ?_
    refine wp_seq_k fun khK10 hK10 => ?_
    refine wp_region_lit ?_
    refine l_at hF rfl rfl rfl (x_faddr Tryd.underlying30 rfl ty27 (by decide) (hF.tmp 1 rfl) rfl) ?_; clear hF; intro a hF
    refine l_at hF rfl rfl rfl (x_load1 ty27 (hF.tmp 39 rfl) (blk_cell (hH.at 1 rfl) 4 rfl)) ?_; clear hF; intro a hF
    refine l_at hF rfl rfl rfl (x_len_slice Tryd.underlying27 (hF.tmp 40 rfl)) ?_; clear hF; intro a hF
    refine l_at hF rfl rfl rfl (x_move rfl) ?_; clear hF; intro a hF
    refine wpList_nil ?_
    refine hK10 _ _ ?_
    refine wp_block ?_
    refine wp_loop_ghost (fun n_ a w => ∃ k : Nat, ∃ Ad : Option Addr, ∃ cd : Nat, n_ = m.nodes.length - k ∧ (k ≤ m.nodes.length) ∧ Fr 98 a [(1, .pointer (some ⟨b1, 0, none⟩)), (4, .slice (some ⟨b34, 0, none⟩) ([((1, [m.kind, m.src, m.dst]) : Fld), ((2, bI m.tx) : Fld)]).length ([((1, [m.kind, m.src, m.dst]) : Fld), ((2, bI m.tx) : Fld)]).length), (5, .pointer (some ⟨b5, 0, none⟩)), (40, .slice Am0 m.nodes.length cm0), (41, .int .i64 (m.nodes.length : Int)), (42, .int .i64 (k : Int))] ∧ Hp (fun _ => False) w0 w [(900, .rd_ (.int .i64) Am0 m.nodes cm0 (fun k => k < w0.heap.size)), (901, .rd_ ChgE Am1 m.changes cm1 (fun k => k < w0.heap.size)), (990, .lib pp), (1, .blk b1 (.cells #[.int .i64 m.kind, .int .i64 m.src, .int .i64 m.dst, .int .i64 m.tx, .slice Am0 m.nodes.length cm0, .slice Am1 m.changes.length cm1] 30 (0, 0))), (27, .rd_ (.int .u8) (some ⟨b27, 0, none⟩) ([m.kind, m.src, m.dst]) ([m.kind, m.src, m.dst]).length (fun kb => (Value.slice (some ⟨b27, 0, none⟩) ([m.kind, m.src, m.dst]).length ([m.kind, m.src, m.dst]).length).ownBlock = some kb)), (32, .rd_ (.int .u8) Ar32 (bI m.tx) cr32 (fun kb => (Value.slice Ar32 (bI m.tx).length cr32).ownBlock = some kb)), (4, .row FE 71 (.slice (some ⟨b34, 0, none⟩) ([((1, [m.kind, m.src, m.dst]) : Fld), ((2, bI m.tx) : Fld)]).length ([((1, [m.kind, m.src, m.dst]) : Fld), ((2, bI m.tx) : Fld)]).length) ([((1, [m.kind, m.src, m.dst]) : Fld), ((2, bI m.tx) : Fld)]) (fun kb => (fun kb => (Value.slice (some ⟨b27, 0, none⟩) ([m.kind, m.src, m.dst]).length ([m.kind, m.src, m.dst]).length).ownBlock = some kb) kb ∨ (fun kb => (Value.slice Ar32 (bI m.tx).length cr32).ownBlock = some kb) kb)), (5, .blk b5 (.cells #[.int .i64 3, .slice Ad (m.nodes.take k).length cd] 71 (0, 0))), (50, .row (.int .u8) 5 (.slice Ad (m.nodes.take k).length cd) (m.nodes.take k) (fun _ => False))]) (m.nodes.length) ?_ ?_
    ·exact ⟨0, none, 0, rfl, by omega, ((((((hF.bare.add hF 42 rfl).add hF 41 rfl).add hF 40 rfl).add hF 5 rfl).add hF 4 rfl).add hF 1 rfl), hH.sub _ (sub_cons (sub_cons (sub_cons (sub_cons (sub_cons (sub_cons (sub_cons (sub_cons (sub_cons (sub_nil _) 50 rfl) 5 rfl) 4 rfl) 32 rfl) 27 rfl) 1 rfl) 990 rfl) 901 rfl) 900 rfl)⟩
    ·rintro _ a w ⟨k, Ad, cd, rfl, hq0_0, hF, hH⟩
     refine wp_seq_k fun khK11 hK11 => ?_
     refine wp_region_lit ?_
     refine l_at hF rfl rfl rfl (x_lss (hF.tmp 42 rfl) (hF.tmp 41 rfl)) ?_; clear hF; intro a hF
     refine wpList_nil ?_
     refine hK11 _ _ ?_
     refine wp_seq_k fun khK12 hK12 => ?_
     refine wp_cond_split (hF.tmp 43 rfl) (fun hc43 => ?_) (fun hc43 => ?_)
     ·have hk43_4 := hc43; try simp only [Bool.or_eq_true, Bool.and_eq_true, Bool.or_eq_false_iff, Bool.and_eq_false_iff, Bool.not_eq_true', Bool.not_eq_false', decide_eq_true_eq, decide_eq_false_iff_not, Bool.not_true, Bool.not_false] at hc43
      refine wp_skip ?_
      refine hK12 _ _ ?_
      refine wp_seq_k fun khK13 hK13 => ?_
      refine wp_block ?_
      refine wp_seq_k fun khK14 hK14 => ?_
      refine wp_region_lit ?_
      have hmem : (gi m.nodes (k : Int)) ∈ m.nodes := List.mem_of_getElem? (gi_some (xs := m.nodes) (i := (k : Int)) (by omega) (by omega))
      refine l_at hF rfl rfl rfl (x_iaddr_A Tryd.underlying27 ty3 ((hH.rd 900 rfl)) (hF.tmp 40 rfl) (hF.tmp 42 rfl) (by omega) (by omega) _) ?_; clear hF; intro a hF
      refine l_at hF rfl rfl rfl (x_load1 ty3 (hF.tmp 44 rfl) (((hH.rd 900 rfl)).cellA (gi_some (i := (k : Int)) (by omega) (by omega)))) ?_; clear hF; intro a hF
      refine l_at hF rfl rfl rfl (x_assign (hF.tmp 45 rfl)) ?_; clear hF; intro a hF
      refine wpList_nil ?_
      refine hK14 _ _ ?_
      refine wp_region_lit ?_
      refine l_at hF rfl rfl rfl (x_faddr Tryd.underlying71 rfl ty53 (by decide) (hF.tmp 5 rfl) rfl) ?_; clear hF; intro a hF
      refine l_at hF rfl rfl rfl (x_load1 ty53 (hF.tmp 46 rfl) (blk_cell (hH.at 5 rfl) 1 rfl)) ?_; clear hF; intro a hF
      refine l_at hF rfl rfl rfl (x_move (hF.tmp 7 rfl)) ?_; clear hF; intro a hF
      refine l_at hF rfl rfl rfl (x_conv Tryd.underlying5 ⟨_, Tryd.underlying3⟩ (hF.tmp 48 rfl) (wu8 (by have := nodes_in ((rightM_parts hr).prep hc37).2.1 _ hmem; omega) (by have := nodes_in ((rightM_parts hr).prep hc37).2.1 _ hmem; omega))) ?_; clear hF; intro a hF
      refine wpList_plain rfl fun K hK => ?_
      refine w_lit 950 (enc := Value.int .u8) (h1 := fun _ => rfl) ([(gi m.nodes (k : Int))]) hF hH rfl Tryd.underlying53 ty5 (by simp only [List.map_toArray, List.map_cons, List.map_nil, hF.tmp 49 rfl]; rfl) rfl (by decide) (by decide) (by kernel_rfl) ?_
      clear hF hH; intro a w b50 hF hH
      refine hK _ _ ?_; clear hK K
      refine wpList_plain rfl fun K hK => ?_
      refine w_append 50 950 (xs := (m.nodes.take k)) (ys := ([(gi m.nodes (k : Int))])) hF hH rfl Tryd.underlying53 ty5 rfl rfl rfl rfl (Row.rd (ok' := fun k_ => (fun _ => False) k_ ∨ (.slice (some ⟨b50, 0, none⟩) ([(gi m.nodes (k : Int))]).length ([(gi m.nodes (k : Int))]).length : Value).ownBlock = some k_) (hH.row 950 rfl) (fun _ hk_ _ => .inl hk_) (fun _ hk_ => .inr hk_)) (by rintro k_ (hk_ | hk_); exact .inr hk_; exact .inl hk_) (hF.tmp 47 rfl) (hF.tmp 50 rfl) (by simp only [List.length_cons, List.length_nil, List.length_take]; omega) (by simp only [List.length_cons, List.length_nil, List.length_take, maxLen]; omega) (fun _ => False) (fun w' v' h => row_flat h _) (fun k_ hk_ => hk_.elim) ?_
      clear hF hH; intro a w v51 hF hH
      refine hK _ _ ?_; clear hK K
      obtain ⟨A51, c51, rfl⟩ := (hH.row 50 rfl).form
      refine l_at hF rfl rfl rfl (x_faddr Tryd.underlying71 rfl ty53 (by decide) (hF.tmp 5 rfl) rfl) ?_; clear hF; intro a hF
      refine wpList_plain rfl fun K hK => ?_
      refine w_store 5 hH ty53 rfl (hF.tmp 52 rfl) (hF.tmp 51 rfl) rfl (one1 rfl rfl) (by first | decide | exact Nat.le_of_ble_eq_true rfl) ?_
      clear hH; intro w hH
      refine hK _ _ ?_; clear hK K
      refine wpList_nil ?_
      refine hK13 _ _ ?_
      refine wp_region_lit ?_
      refine l_at hF rfl rfl rfl (x_add (hF.tmp 42 rfl) rfl (w64 (by omega) (by omega))) ?_; clear hF; intro a hF
      refine l_at hF rfl rfl rfl (x_move (hF.tmp 53 rfl)) ?_; clear hF; intro a hF
      refine wpList_nil ?_
      have hHs : Hp (fun _ => False) w0 w [(900, .rd_ (.int .i64) Am0 m.nodes cm0 (fun k => k < w0.heap.size)), (901, .rd_ ChgE Am1 m.changes cm1 (fun k => k < w0.heap.size)), (990, .lib pp), (1, .blk b1 (.cells #[.int .i64 m.kind, .int .i64 m.src, .int .i64 m.dst, .int .i64 m.tx, .slice Am0 m.nodes.length cm0, .slice Am1 m.changes.length cm1] 30 (0, 0))), (27, .rd_ (.int .u8) (some ⟨b27, 0, none⟩) ([m.kind, m.src, m.dst]) ([m.kind, m.src, m.dst]).length (fun kb => (Value.slice (some ⟨b27, 0, none⟩) ([m.kind, m.src, m.dst]).length ([m.kind, m.src, m.dst]).length).ownBlock = some kb)), (32, .rd_ (.int .u8) Ar32 (bI m.tx) cr32 (fun kb => (Value.slice Ar32 (bI m.tx).length cr32).ownBlock = some kb)), (4, .row FE 71 (.slice (some ⟨b34, 0, none⟩) ([((1, [m.kind, m.src, m.dst]) : Fld), ((2, bI m.tx) : Fld)]).length ([((1, [m.kind, m.src, m.dst]) : Fld), ((2, bI m.tx) : Fld)]).length) ([((1, [m.kind, m.src, m.dst]) : Fld), ((2, bI m.tx) : Fld)]) (fun kb => (fun kb => (Value.slice (some ⟨b27, 0, none⟩) ([m.kind, m.src, m.dst]).length ([m.kind, m.src, m.dst]).length).ownBlock = some kb) kb ∨ (fun kb => (Value.slice Ar32 (bI m.tx).length cr32).ownBlock = some kb) kb)), (5, .blk b5 (.cells #[.int .i64 3, .slice A51 (m.nodes.take k ++ [(gi m.nodes (k : Int))]).length c51] 71 (0, 0))), (50, .row (.int .u8) 5 (.slice A51 (m.nodes.take k ++ [(gi m.nodes (k : Int))]).length c51) (m.nodes.take k ++ [(gi m.nodes (k : Int))]) (fun _ => False))] := hH.sub _ (sub_cons (sub_cons (sub_cons (sub_cons (sub_cons (sub_cons (sub_cons (sub_cons (sub_cons (sub_nil _) 50 rfl) 5 rfl) 4 rfl) 32 rfl) 27 rfl) 1 rfl) 990 rfl) 901 rfl) 900 rfl)
      rw [← gi_step hc43] at hHs
      exact ⟨_, by omega, ⟨k + 1, A51, c51, rfl, by omega, ((((((hF.bare.add hF 42 rfl).add hF 41 rfl).add hF 40 rfl).add hF 5 rfl).add hF 4 rfl).add hF 1 rfl), hHs⟩⟩
     ·have hk43_5 := hc43; try simp only [Bool.or_eq_true, Bool.and_eq_true, Bool.or_eq_false_iff, Bool.and_eq_false_iff, Bool.not_eq_true', Bool.not_eq_false', decide_eq_true_eq, decide_eq_false_iff_not, Bool.not_true, Bool.not_false] at hc43
      refine wp_exit ?_
      refine hK9 _ _ ?_
      refine wp_seq_k fun khK15 hK15 => ?_
      refine wp_region_lit ?_
      obtain rfl : k = m.nodes.length := by omega
      rw [List.take_length] at hH
      have hH := hH.freeze 50 rfl (fun kb => (Value.slice Ad m.nodes.length cd).ownBlock = some kb) (fun kb => ⟨fun h => .inr h, fun h => h.resolve_left id⟩)
      refine l_at hF rfl rfl rfl (x_move (hF.tmp 4 rfl)) ?_; clear hF; intro a hF
      refine l_at hF rfl rfl rfl (x_loadn ty71 (hF.tmp 5 rfl) rfl (blk_whole (hH.at 5 rfl))) ?_; clear hF; intro a hF
      refine wpList_plain rfl fun K hK => ?_
      refine w_lit1 56 FE ((3, m.nodes) : Fld) #[.int .i64 3, .slice Ad m.nodes.length cd] (fun kb => (Value.slice Ad m.nodes.length cd).ownBlock = some kb) hF hH rfl Tryd.underlying73 ty71 (by simp only [List.map_toArray, List.map_cons, List.map_nil, hF.tmp 55 rfl] <;> rfl) (by decide) (by kernel_rfl) (fld_mk (f := ((3, m.nodes) : Fld)) ((hH.rd 50 rfl))) (fun kb hk => ⟨50, _, rfl, hk⟩) ?_
      clear hF hH; intro a w b56 hF hb56_ hH
      refine hK _ _ ?_; clear hK K
      refine wpList_plain rfl fun K hK => ?_
      refine w_append 4 56 (xs := ([((1, [m.kind, m.src, m.dst]) : Fld), ((2, bI m.tx) : Fld)])) (ys := ([((3, m.nodes) : Fld)])) hF hH rfl Tryd.underlying73 ty71 rfl rfl rfl rfl ((hH.rd 56 rfl)) (by intro k_ hk_; exact .inr hk_) (hF.tmp 54 rfl) (hF.tmp 56 rfl) (by simp only [List.length_append, List.length_nil, List.length_cons, List.length_map, List.length_take] at *; omega) (by simp only [List.length_append, List.length_nil, List.length_cons, List.length_map, List.length_take, maxLen] at *; omega) (fun kb => (fun kb => (fun kb => (Value.slice (some ⟨b27, 0, none⟩) ([m.kind, m.src, m.dst]).length ([m.kind, m.src, m.dst]).length).ownBlock = some kb) kb ∨ (fun kb => (Value.slice Ar32 (bI m.tx).length cr32).ownBlock = some kb) kb) kb ∨ (fun kb => (fun kb => (Value.slice Ad m.nodes.length cd).ownBlock = some kb) kb ∨ kb = b56) kb) (fun w' v' h => h) (by rintro k_ (hk_ | hk_); exact .inl hk_; exact .inr hk_) ?_
      clear hF hH; intro a w v57 hF hH
      refine hK _ _ ?_; clear hK K
      refine l_at hF rfl rfl rfl (x_assign (hF.tmp 57 rfl)) ?_; clear hF; intro a hF
      refine wpList_nil ?_
      refine hK15 _ _ ?_
      refine wp_seq_k fun khK16 hK16 => ?_
      refine wp_region_lit ?_
      refine l_at hF rfl rfl rfl (x_faddr Tryd.underlying30 rfl ty28 (by decide) (hF.tmp 1 rfl) rfl) ?_; clear hF; intro a hF
      refine l_at hF rfl rfl rfl (x_load1 ty28 (hF.tmp 58 rfl) (blk_cell (hH.at 1 rfl) 5 rfl)) ?_; clear hF; intro a hF
      refine l_at hF rfl rfl rfl (x_len_slice Tryd.underlying28 (hF.tmp 59 rfl)) ?_; clear hF; intro a hF
      refine l_at hF rfl rfl rfl (x_move rfl) ?_; clear hF; intro a hF
      refine wpList_nil ?_
      refine hK16 _ _ ?_
      refine wp_block ?_
      refine wp_loop_ghost (fun n_ a w => ∃ k : Nat, ∃ v4 : Value, ∃ okv : Nat → Prop, n_ = m.changes.length - k ∧ (k ≤ m.changes.length) ∧ Fr 98 a [(4, v4), (59, .slice Am1 m.changes.length cm1), (60, .int .i64 (m.changes.length : Int)), (61, .int .i64 (k : Int))] ∧ Hp (fun _ => False) w0 w [(900, .rd_ (.int .i64) Am0 m.nodes cm0 (fun k => k < w0.heap.size)), (901, .rd_ ChgE Am1 m.changes cm1 (fun k => k < w0.heap.size)), (990, .lib pp), (1, .blk b1 (.cells #[.int .i64 m.kind, .int .i64 m.src, .int .i64 m.dst, .int .i64 m.tx, .slice Am0 m.nodes.length cm0, .slice Am1 m.changes.length cm1] 30 (0, 0))), (27, .rd_ (.int .u8) (some ⟨b27, 0, none⟩) ([m.kind, m.src, m.dst]) ([m.kind, m.src, m.dst]).length (fun kb => (Value.slice (some ⟨b27, 0, none⟩) ([m.kind, m.src, m.dst]).length ([m.kind, m.src, m.dst]).length).ownBlock = some kb)), (32, .rd_ (.int .u8) Ar32 (bI m.tx) cr32 (fun kb => (Value.slice Ar32 (bI m.tx).length cr32).ownBlock = some kb)), (4, .row FE 71 v4 (([((1, [m.kind, m.src, m.dst]) : Fld), ((2, bI m.tx) : Fld)] ++ [((3, m.nodes) : Fld)]) ++ (m.changes.take k).map (fun c => ((4, encC c) : Fld))) okv), (5, .blk b5 (.cells #[.int .i64 3, .slice Ad m.nodes.length cd] 71 (0, 0))), (50, .rd_ (.int .u8) Ad m.nodes cd (fun kb => (Value.slice Ad m.nodes.length cd).ownBlock = some kb)), (56, .rd_ FE (some ⟨b56, 0, none⟩) [((3, m.nodes) : Fld)] 1 (fun kb => (fun kb => (Value.slice Ad m.nodes.length cd).ownBlock = some kb) kb ∨ kb = b56))]) (m.changes.length) ?_ ?_
      ·exact ⟨0, v57, (fun kb => (fun kb => (fun kb => (Value.slice (some ⟨b27, 0, none⟩) ([m.kind, m.src, m.dst]).length ([m.kind, m.src, m.dst]).length).ownBlock = some kb) kb ∨ (fun kb => (Value.slice Ar32 (bI m.tx).length cr32).ownBlock = some kb) kb) kb ∨ (fun kb => (fun kb => (Value.slice Ad m.nodes.length cd).ownBlock = some kb) kb ∨ kb = b56) kb), rfl, by omega, ((((hF.bare.add hF 61 rfl).add hF 60 rfl).add hF 59 rfl).add hF 4 rfl), hH.sub _ (sub_cons (sub_cons (sub_cons (sub_cons (sub_cons (sub_cons (sub_cons (sub_cons (sub_cons (sub_cons (sub_nil _) 56 rfl) 50 rfl) 5 rfl) 4 rfl) 32 rfl) 27 rfl) 1 rfl) 990 rfl) 901 rfl) 900 rfl)⟩
      ·rintro _ a w ⟨k, v4, okv, rfl, hq2_0, hF, hH⟩
       refine wp_seq_k fun khK17 hK17 => ?_
       refine wp_region_lit ?_
       refine l_at hF rfl rfl rfl (x_lss (hF.tmp 61 rfl) (hF.tmp 60 rfl)) ?_; clear hF; intro a hF
       refine wpList_nil ?_
       refine hK17 _ _ ?_
       refine wp_seq_k fun khK18 hK18 => ?_
       refine wp_cond_split (hF.tmp 62 rfl) (fun hc62 => ?_) (fun hc62 => ?_)
       ·have hk62_6 := hc62; try simp only [Bool.or_eq_true, Bool.and_eq_true, Bool.or_eq_false_iff, Bool.and_eq_false_iff, Bool.not_eq_true', Bool.not_eq_false', decide_eq_true_eq, decide_eq_false_iff_not, Bool.not_true, Bool.not_false] at hc62
        refine wp_skip ?_
        refine hK18 _ _ ?_
        refine wp_seq_k fun khK19 hK19 => ?_
        refine wp_block ?_
        refine wp_seq_k fun khK20 hK20 => ?_
        refine wp_region_lit ?_
        obtain ⟨fA1, fc1, hfr1, hf1_0, hf1_1, hf1_2, hf1_3, hf1_4, hf1_5, hf1_6, hf1_7, hfw1⟩ := rd_chg ((hH.rd 901 rfl)) (gchg_some (xs := m.changes) (i := (k : Int)) (by omega) (by omega))
        have hH := hH.subrd 901 rfl 1007 hfr1 (fun _ h => h)
        have hH := hH.subcels 901 rfl 1499 hfw1 (Rd.inok ((hH.rd 901 rfl)) (by omega) _)
        have hH := hH.subcel 901 rfl 1500 hf1_0 (Rd.inok ((hH.rd 901 rfl)) (by omega) _)
        have hH := hH.subcel 901 rfl 1501 hf1_1 (Rd.inok ((hH.rd 901 rfl)) (by omega) _)
        have hH := hH.subcel 901 rfl 1502 hf1_2 (Rd.inok ((hH.rd 901 rfl)) (by omega) _)
        have hH := hH.subcel 901 rfl 1503 hf1_3 (Rd.inok ((hH.rd 901 rfl)) (by omega) _)
        have hH := hH.subcel 901 rfl 1504 hf1_4 (Rd.inok ((hH.rd 901 rfl)) (by omega) _)
        have hH := hH.subcel 901 rfl 1505 hf1_5 (Rd.inok ((hH.rd 901 rfl)) (by omega) _)
        have hH := hH.subcel 901 rfl 1506 hf1_6 (Rd.inok ((hH.rd 901 rfl)) (by omega) _)
        have hH := hH.subcel 901 rfl 1507 hf1_7 (Rd.inok ((hH.rd 901 rfl)) (by omega) _)
        refine l_at hF rfl rfl rfl (x_iaddr_A Tryd.underlying28 ty69 ((hH.rd 901 rfl)) (hF.tmp 59 rfl) (hF.tmp 61 rfl) (by omega) (by omega) _) ?_; clear hF; intro a hF
        refine l_at hF rfl rfl rfl (x_loadn ty69 (hF.tmp 63 rfl) rfl (hH.holds 1499 _ rfl)) ?_; clear hF; intro a hF
        refine wpList_plain rfl fun K hK => ?_
        refine w_alloc 9 hF hH rfl ty69 ?_
        clear hF hH; intro a w b9 hF hH
        refine hK _ _ ?_; clear hK K
        refine wpList_plain rfl fun K hK => ?_
        refine w_storeA 9 hH ty69 rfl (hF.tmp 9 rfl) (hF.tmp 64 rfl) rfl (by simp [Value.cells, Value.oneCell']) rfl ?_
        clear hH; intro w hH
        refine hK _ _ ?_; clear hK K
        refine wpList_nil ?_
        refine hK20 _ _ ?_
        refine wp_seq_k fun khK21 hK21 => ?_
        refine wp_region_lit ?_
        refine l_at hF rfl rfl rfl (x_loadn ty69 (hF.tmp 9 rfl) rfl (blk_whole (hH.at 9 rfl))) ?_; clear hF; intro a hF
        refine wpList_plain rfl fun K hK => ?_
        refine w_call hF (x_enter Tryd.func29 (by kernel_rfl) rfl (by simp only [List.map_toArray, List.map_cons, List.map_nil, hF.tmp 66 rfl] <;> rfl)) (encC_calls _ (hH.holds 990 _ rfl) ((hH.rd 1007 rfl)) (hb.changes _ (gchg_mem (xs := m.changes) (j := k) (by omega)))) rfl rfl ?_
        rintro _ w ⟨vr67, rfl, hm_, hr_⟩; refine ⟨_, rfl, ?_⟩; clear hF; intro a hF; have hH := Hp.rowOut hH 67 hm_ hr_; obtain ⟨Ar67, cr67, rfl⟩ := (hH.row 67 rfl).form
        refine hK _ _ ?_; clear hK K
        refine l_at hF rfl rfl rfl (x_move (hF.tmp 67 rfl)) ?_; clear hF; intro a hF
        refine l_at hF rfl rfl rfl (x_extract (hF.tmp 65 rfl) rfl) ?_; clear hF; intro a hF
        refine l_at hF rfl rfl rfl (x_extract (hF.tmp 65 rfl) rfl) ?_; clear hF; intro a hF
        refine l_at hF rfl rfl rfl (x_assign (hF.tmp 68 rfl)) ?_; clear hF; intro a hF
        refine l_at hF rfl rfl rfl (x_assign (hF.tmp 69 rfl)) ?_; clear hF; intro a hF
        refine wpList_nil ?_
        refine hK21 _ _ ?_
        refine wp_region_lit ?_
        have hH := hH.freeze 67 rfl (fun kb => (Value.slice Ar67 (encC (gchg m.changes (k : Int))).length cr67).ownBlock = some kb) (fun kb => ⟨fun h => .inr h, fun h => h.resolve_left id⟩)
        refine l_at hF rfl rfl rfl (x_move (hF.tmp 4 rfl)) ?_; clear hF; intro a hF
        refine l_at hF rfl rfl rfl (x_move (hF.tmp 10 rfl)) ?_; clear hF; intro a hF
        refine l_at hF rfl rfl rfl (x_buildS (cells := #[.int .i64 4, .slice Ar67 (encC (gchg m.changes (k : Int))).length cr67]) (places := #[(0, 1), (1, 1)]) Tryd.underlying71 ty71 (by kernel_rfl) (by simp only [List.map_toArray, List.map_cons, List.map_nil, hF.tmp 71 rfl] <;> rfl) rfl) ?_; clear hF; intro a hF
        refine wpList_plain rfl fun K hK => ?_
        refine w_lit1 73 FE ((4, (encC (gchg m.changes (k : Int)))) : Fld) #[.int .i64 4, .slice Ar67 (encC (gchg m.changes (k : Int))).length cr67] (fun kb => (Value.slice Ar67 (encC (gchg m.changes (k : Int))).length cr67).ownBlock = some kb) hF hH rfl Tryd.underlying73 ty71 (by simp only [List.map_toArray, List.map_cons, List.map_nil, hF.tmp 72 rfl] <;> rfl) (by decide) (by kernel_rfl) (fld_mk (f := ((4, (encC (gchg m.changes (k : Int)))) : Fld)) ((hH.rd 67 rfl))) (fun kb hk => ⟨67, _, rfl, hk⟩) ?_
        clear hF hH; intro a w b73 hF hb73_ hH
        refine hK _ _ ?_; clear hK K
        refine wpList_plain rfl fun K hK => ?_
        refine w_append 4 73 (xs := (([((1, [m.kind, m.src, m.dst]) : Fld), ((2, bI m.tx) : Fld)] ++ [((3, m.nodes) : Fld)]) ++ (m.changes.take k).map (fun c => ((4, encC c) : Fld)))) (ys := ([((4, (encC (gchg m.changes (k : Int)))) : Fld)])) hF hH rfl Tryd.underlying73 ty71 rfl rfl rfl rfl ((hH.rd 73 rfl)) (by intro k_ hk_; exact .inr hk_) (hF.tmp 70 rfl) (hF.tmp 73 rfl) (by simp only [List.length_append, List.length_nil, List.length_cons, List.length_map, List.length_take] at *; omega) (by simp only [List.length_append, List.length_nil, List.length_cons, List.length_map, List.length_take, maxLen] at *; omega) (fun kb => okv kb ∨ (fun kb => (fun kb => (Value.slice Ar67 (encC (gchg m.changes (k : Int))).length cr67).ownBlock = some kb) kb ∨ kb = b73) kb) (fun w' v' h => h) (by rintro k_ (hk_ | hk_); exact .inl hk_; exact .inr hk_) ?_
        clear hF hH; intro a w v74 hF hH
        refine hK _ _ ?_; clear hK K
        refine l_at hF rfl rfl rfl (x_assign (hF.tmp 74 rfl)) ?_; clear hF; intro a hF
        refine wpList_nil ?_
        refine hK19 _ _ ?_
        refine wp_region_lit ?_
        refine l_at hF rfl rfl rfl (x_add (hF.tmp 61 rfl) rfl (w64 (by omega) (by omega))) ?_; clear hF; intro a hF
        refine l_at hF rfl rfl rfl (x_move (hF.tmp 75 rfl)) ?_; clear hF; intro a hF
        refine wpList_nil ?_
        have hHs : Hp (fun _ => False) w0 w [(900, .rd_ (.int .i64) Am0 m.nodes cm0 (fun k => k < w0.heap.size)), (901, .rd_ ChgE Am1 m.changes cm1 (fun k => k < w0.heap.size)), (990, .lib pp), (1, .blk b1 (.cells #[.int .i64 m.kind, .int .i64 m.src, .int .i64 m.dst, .int .i64 m.tx, .slice Am0 m.nodes.length cm0, .slice Am1 m.changes.length cm1] 30 (0, 0))), (27, .rd_ (.int .u8) (some ⟨b27, 0, none⟩) ([m.kind, m.src, m.dst]) ([m.kind, m.src, m.dst]).length (fun kb => (Value.slice (some ⟨b27, 0, none⟩) ([m.kind, m.src, m.dst]).length ([m.kind, m.src, m.dst]).length).ownBlock = some kb)), (32, .rd_ (.int .u8) Ar32 (bI m.tx) cr32 (fun kb => (Value.slice Ar32 (bI m.tx).length cr32).ownBlock = some kb)), (4, .row FE 71 v74 ((([((1, [m.kind, m.src, m.dst]) : Fld), ((2, bI m.tx) : Fld)] ++ [((3, m.nodes) : Fld)]) ++ (m.changes.take k).map (fun c => ((4, encC c) : Fld))) ++ [((4, encC (gchg m.changes (k : Int))) : Fld)]) (fun kb => okv kb ∨ (fun kb => (fun kb => (Value.slice Ar67 (encC (gchg m.changes (k : Int))).length cr67).ownBlock = some kb) kb ∨ kb = b73) kb)), (5, .blk b5 (.cells #[.int .i64 3, .slice Ad m.nodes.length cd] 71 (0, 0))), (50, .rd_ (.int .u8) Ad m.nodes cd (fun kb => (Value.slice Ad m.nodes.length cd).ownBlock = some kb)), (56, .rd_ FE (some ⟨b56, 0, none⟩) [((3, m.nodes) : Fld)] 1 (fun kb => (fun kb => (Value.slice Ad m.nodes.length cd).ownBlock = some kb) kb ∨ kb = b56))] := hH.sub _ (sub_cons (sub_cons (sub_cons (sub_cons (sub_cons (sub_cons (sub_cons (sub_cons (sub_cons (sub_cons (sub_nil _) 56 rfl) 50 rfl) 5 rfl) 4 rfl) 32 rfl) 27 rfl) 1 rfl) 990 rfl) 901 rfl) 900 rfl)
        rw [chg_stepL hc62] at hHs
        exact ⟨_, by omega, ⟨k + 1, v74, (fun kb => okv kb ∨ (fun kb => (fun kb => (Value.slice Ar67 (encC (gchg m.changes (k : Int))).length cr67).ownBlock = some kb) kb ∨ kb = b73) kb), rfl, by omega, ((((hF.bare.add hF 61 rfl).add hF 60 rfl).add hF 59 rfl).add hF 4 rfl), hHs⟩⟩
       ·have hk62_7 := hc62; try simp only [Bool.or_eq_true, Bool.and_eq_true, Bool.or_eq_false_iff, Bool.and_eq_false_iff, Bool.not_eq_true', Bool.not_eq_false', decide_eq_true_eq, decide_eq_false_iff_not, Bool.not_true, Bool.not_false] at hc62
        refine wp_exit ?_
        refine hK6 _ _ ?_
        refine wp_seq_k fun khK22 hK22 => ?_
        refine wp_region_lit ?_
        obtain rfl : k = m.changes.length := by omega
        rw [List.take_length] at hH
        rw [msgF_1 hc37] at hH
        obtain ⟨Av, cv, rfl⟩ := (hH.row 4 rfl).form
        refine l_at hF rfl rfl rfl (x_move (hF.tmp 4 rfl)) ?_; clear hF; intro a hF
        refine wpList_plain rfl fun K hK => ?_
        refine w_call hF (x_enter Tryd.func30 (by kernel_rfl) rfl (by simp only [List.map_toArray, List.map_cons, List.map_nil, hF.tmp 77 rfl] <;> rfl)) (enc_at (Row.rd (ok' := fun k_ => okv k_ ∨ (.slice Av (msgF m).length cv : Value).ownBlock = some k_) (hH.row 4 rfl) (fun _ hk_ _ => .inl hk_) (fun _ hk_ => .inr hk_)) (msg_encR hr hb)) rfl rfl ?_
        rintro _ w ⟨vr78, rfl, hm_, hr_⟩; refine ⟨_, rfl, ?_⟩; clear hF; intro a hF; have hH := Hp.rowOut hH 78 hm_ hr_; obtain ⟨Ar78, cr78, rfl⟩ := (hH.row 78 rfl).form
        refine hK _ _ ?_; clear hK K
        refine l_at hF rfl rfl rfl (x_move (hF.tmp 78 rfl)) ?_; clear hF; intro a hF
        refine l_at hF rfl rfl rfl (x_extract (hF.tmp 76 rfl) rfl) ?_; clear hF; intro a hF
        refine l_at hF rfl rfl rfl (x_extract (hF.tmp 76 rfl) rfl) ?_; clear hF; intro a hF
        refine l_at hF rfl rfl rfl (x_assign (hF.tmp 79 rfl)) ?_; clear hF; intro a hF
        refine l_at hF rfl rfl rfl (x_assign (hF.tmp 80 rfl)) ?_; clear hF; intro a hF
        refine wpList_nil ?_
        refine hK22 _ _ ?_
        refine wp_seq_k fun khK23 hK23 => ?_
        refine wp_region_lit ?_
        refine l_at hF rfl rfl rfl (x_move (hF.tmp 12 rfl)) ?_; clear hF; intro a hF
        refine wpList_plain rfl fun K hK => ?_
        refine w_call hF (x_enter Tryd.func31 (by kernel_rfl) rfl (by simp only [List.map_toArray, List.map_cons, List.map_nil, hF.tmp 81 rfl] <;> rfl)) (Crc.sum_calls _ (Row.rd (ok' := fun k_ => (fun _ => False) k_ ∨ (.slice Ar78 (encI (msgF m)).length cr78 : Value).ownBlock = some k_) (hH.row 78 rfl) (fun _ hk_ _ => .inl hk_) (fun _ hk_ => .inr hk_))) rfl rfl ?_
        rintro _ w ⟨rfl, hm_⟩; refine ⟨_, rfl, ?_⟩; clear hF; intro a hF; have hH := hH.same hm_
        refine hK _ _ ?_; clear hK K
        refine l_at hF rfl rfl rfl (x_assign (hF.tmp 82 rfl)) ?_; clear hF; intro a hF
        refine wpList_nil ?_
        refine hK23 _ _ ?_
        refine wp_seq_k fun khK24 hK24 => ?_
        refine wp_region_lit ?_
        refine l_at hF rfl rfl rfl (x_move (hF.tmp 12 rfl)) ?_; clear hF; intro a hF
        refine l_at hF rfl rfl rfl (x_move (hF.tmp 14 rfl)) ?_; clear hF; intro a hF
        refine l_at hF rfl rfl rfl (x_conv Tryd.underlying5 ⟨_, Tryd.underlying76⟩ (hF.tmp 84 rfl) (IntKind.wrap_u8 _)) ?_; clear hF; intro a hF
        refine l_at hF rfl rfl rfl (x_move (hF.tmp 14 rfl)) ?_; clear hF; intro a hF
        refine l_at hF rfl rfl rfl (x_shr (hF.tmp 86 rfl) rfl (by omega) (shrU _).1) ?_; clear hF; intro a hF
        refine l_at hF rfl rfl rfl (x_conv Tryd.underlying5 ⟨_, Tryd.underlying76⟩ (hF.tmp 87 rfl) (IntKind.wrap_u8 _)) ?_; clear hF; intro a hF
        refine l_at hF rfl rfl rfl (x_move (hF.tmp 14 rfl)) ?_; clear hF; intro a hF
        refine l_at hF rfl rfl rfl (x_shr (hF.tmp 89 rfl) rfl (by omega) (shrU _).2.1) ?_; clear hF; intro a hF
        refine l_at hF rfl rfl rfl (x_conv Tryd.underlying5 ⟨_, Tryd.underlying76⟩ (hF.tmp 90 rfl) (IntKind.wrap_u8 _)) ?_; clear hF; intro a hF
        refine l_at hF rfl rfl rfl (x_move (hF.tmp 14 rfl)) ?_; clear hF; intro a hF
        refine l_at hF rfl rfl rfl (x_shr (hF.tmp 92 rfl) rfl (by omega) (shrU _).2.2) ?_; clear hF; intro a hF
        refine l_at hF rfl rfl rfl (x_conv Tryd.underlying5 ⟨_, Tryd.underlying76⟩ (hF.tmp 93 rfl) (IntKind.wrap_u8 _)) ?_; clear hF; intro a hF
        refine wpList_plain rfl fun K hK => ?_
        refine w_lit 95 (enc := Value.int .u8) (h1 := fun _ => rfl) (le4 (Crc.moreI 0 (encI (msgF m)))) hF hH rfl Tryd.underlying53 ty5 (by simp only [List.map_toArray, List.map_cons, List.map_nil, hF.tmp 85 rfl, hF.tmp 88 rfl, hF.tmp 91 rfl, hF.tmp 94 rfl]; rfl) rfl (by decide) (by decide) (by kernel_rfl) ?_
        clear hF hH; intro a w b95 hF hH
        refine hK _ _ ?_; clear hK K
        refine wpList_plain rfl fun K hK => ?_
        refine w_append 78 95 (xs := (encI (msgF m))) (ys := (le4 (Crc.moreI 0 (encI (msgF m))))) hF hH rfl Tryd.underlying53 ty5 rfl rfl rfl rfl (Row.rd (ok' := fun k_ => (fun _ => False) k_ ∨ (.slice (some ⟨b95, 0, none⟩) ((le4 (Crc.moreI 0 (encI (msgF m))))).length ((le4 (Crc.moreI 0 (encI (msgF m))))).length : Value).ownBlock = some k_) (hH.row 95 rfl) (fun _ hk_ _ => .inl hk_) (fun _ hk_ => .inr hk_)) (by rintro k_ (hk_ | hk_); exact .inr hk_; exact .inl hk_) (hF.tmp 83 rfl) (hF.tmp 95 rfl) (by have := msgI_len hr hb; simp only [le4, List.length_cons, List.length_nil]; omega) (by have := msgI_len hr hb; simp only [le4, List.length_cons, List.length_nil, maxLen]; omega) (fun _ => False) (fun w' v' h => row_flat h _) (fun k_ hk_ => hk_.elim) ?_
        clear hF hH; intro a w v96 hF hH
        refine hK _ _ ?_; clear hK K
        refine l_at hF rfl rfl rfl (x_move (hF.tmp 13 rfl)) ?_; clear hF; intro a hF
        refine l_at hF rfl rfl rfl (x_assign (hF.tmp 96 rfl)) ?_; clear hF; intro a hF
        refine l_at hF rfl rfl rfl (x_assign (hF.tmp 97 rfl)) ?_; clear hF; intro a hF
        refine wpList_nil ?_
        refine hK24 _ _ ?_
        refine wp_ret ?_
        try simp only [Exit.then, Exit.inBlock]
        rw [encM_yes hr] at hH
        exact fin_ret hF (res2 hF rfl rfl rfl) ⟨_, by rw [encME_yes hr] <;> rfl, hH.mods, Hp.out hH 78 rfl⟩
   ·have hk37_8 := hc37; try simp only [Bool.or_eq_true, Bool.and_eq_true, Bool.or_eq_false_iff, Bool.and_eq_false_iff, Bool.not_eq_true', Bool.not_eq_false', decide_eq_true_eq, decide_eq_false_iff_not, Bool.not_true, Bool.not_false] at hc37
    refine wp_skip ?_
    refine hK6 _ _ ?_
    refine wp_seq_k fun khK25 hK25 => ?_
    refine wp_region_lit ?_
    obtain ⟨fs, hfs⟩ : ∃ fs, fs = [((1, [m.kind, m.src, m.dst]) : Fld), ((2, bI m.tx) : Fld)] := ⟨_, rfl⟩
    rw [← hfs] at hH hF
    have hfs2 : fs = msgF m := hfs.trans (msgF_0 hc37)
    subst hfs2
    refine l_at hF rfl rfl rfl (x_move (hF.tmp 4 rfl)) ?_; clear hF; intro a hF
    refine wpList_plain rfl fun K hK => ?_
    refine w_call hF (x_enter Tryd.func30 (by kernel_rfl) rfl (by simp only [List.map_toArray, List.map_cons, List.map_nil, hF.tmp 77 rfl] <;> rfl)) (enc_at (Row.rd (ok' := fun k_ => (fun kb => (fun kb => (Value.slice (some ⟨b27, 0, none⟩) ([m.kind, m.src, m.dst]).length ([m.kind, m.src, m.dst]).length).ownBlock = some kb) kb ∨ (fun kb => (Value.slice Ar32 (bI m.tx).length cr32).ownBlock = some kb) kb) k_ ∨ (.slice (some ⟨b34, 0, none⟩) (msgF m).length (msgF m).length : Value).ownBlock = some k_) (hH.row 4 rfl) (fun _ hk_ _ => .inl hk_) (fun _ hk_ => .inr hk_)) (msg_encR hr hb)) rfl rfl ?_
    rintro _ w ⟨vr78, rfl, hm_, hr_⟩; refine ⟨_, rfl, ?_⟩; clear hF; intro a hF; have hH := Hp.rowOut hH 78 hm_ hr_; obtain ⟨Ar78, cr78, rfl⟩ := (hH.row 78 rfl).form
    refine hK _ _ ?_; clear hK K
    refine l_at hF rfl rfl rfl (x_move (hF.tmp 78 rfl)) ?_; clear hF; intro a hF
    refine l_at hF rfl rfl rfl (x_extract (hF.tmp 76 rfl) rfl) ?_; clear hF; intro a hF
    refine l_at hF rfl rfl rfl (x_extract (hF.tmp 76 rfl) rfl) ?_; clear hF; intro a hF
    refine l_at hF rfl rfl rfl (x_assign (hF.tmp 79 rfl)) ?_; clear hF; intro a hF
    refine l_at hF rfl rfl rfl (x_assign (hF.tmp 80 rfl)) ?_; clear hF; intro a hF
    refine wpList_nil ?_
    refine hK25 _ _ ?_
    refine wp_seq_k fun khK26 hK26 => ?_
    refine wp_region_lit ?_
    refine l_at hF rfl rfl rfl (x_move (hF.tmp 12 rfl)) ?_; clear hF; intro a hF
    refine wpList_plain rfl fun K hK => ?_
    refine w_call hF (x_enter Tryd.func31 (by kernel_rfl) rfl (by simp only [List.map_toArray, List.map_cons, List.map_nil, hF.tmp 81 rfl] <;> rfl)) (Crc.sum_calls _ (Row.rd (ok' := fun k_ => (fun _ => False) k_ ∨ (.slice Ar78 (encI (msgF m)).length cr78 : Value).ownBlock = some k_) (hH.row 78 rfl) (fun _ hk_ _ => .inl hk_) (fun _ hk_ => .inr hk_))) rfl rfl ?_
    rintro _ w ⟨rfl, hm_⟩; refine ⟨_, rfl, ?_⟩; clear hF; intro a hF; have hH := hH.same hm_
    refine hK _ _ ?_; clear hK K
    refine l_at hF rfl rfl rfl (x_assign (hF.tmp 82 rfl)) ?_; clear hF; intro a hF
    refine wpList_nil ?_
    refine hK26 _ _ ?_
    refine wp_seq_k fun khK27 hK27 => ?_
    refine wp_region_lit ?_
    refine l_at hF rfl rfl rfl (x_move (hF.tmp 12 rfl)) ?_; clear hF; intro a hF
    refine l_at hF rfl rfl rfl (x_move (hF.tmp 14 rfl)) ?_; clear hF; intro a hF
    refine l_at hF rfl rfl rfl (x_conv Tryd.underlying5 ⟨_, Tryd.underlying76⟩ (hF.tmp 84 rfl) (IntKind.wrap_u8 _)) ?_; clear hF; intro a hF
    refine l_at hF rfl rfl rfl (x_move (hF.tmp 14 rfl)) ?_; clear hF; intro a hF
    refine l_at hF rfl rfl rfl (x_shr (hF.tmp 86 rfl) rfl (by omega) (shrU _).1) ?_; clear hF; intro a hF
    refine l_at hF rfl rfl rfl (x_conv Tryd.underlying5 ⟨_, Tryd.underlying76⟩ (hF.tmp 87 rfl) (IntKind.wrap_u8 _)) ?_; clear hF; intro a hF
    refine l_at hF rfl rfl rfl (x_move (hF.tmp 14 rfl)) ?_; clear hF; intro a hF
    refine l_at hF rfl rfl rfl (x_shr (hF.tmp 89 rfl) rfl (by omega) (shrU _).2.1) ?_; clear hF; intro a hF
    refine l_at hF rfl rfl rfl (x_conv Tryd.underlying5 ⟨_, Tryd.underlying76⟩ (hF.tmp 90 rfl) (IntKind.wrap_u8 _)) ?_; clear hF; intro a hF
    refine l_at hF rfl rfl rfl (x_move (hF.tmp 14 rfl)) ?_; clear hF; intro a hF
    refine l_at hF rfl rfl rfl (x_shr (hF.tmp 92 rfl) rfl (by omega) (shrU _).2.2) ?_; clear hF; intro a hF
    refine l_at hF rfl rfl rfl (x_conv Tryd.underlying5 ⟨_, Tryd.underlying76⟩ (hF.tmp 93 rfl) (IntKind.wrap_u8 _)) ?_; clear hF; intro a hF
    refine wpList_plain rfl fun K hK => ?_
    refine w_lit 95 (enc := Value.int .u8) (h1 := fun _ => rfl) (le4 (Crc.moreI 0 (encI (msgF m)))) hF hH rfl Tryd.underlying53 ty5 (by simp only [List.map_toArray, List.map_cons, List.map_nil, hF.tmp 85 rfl, hF.tmp 88 rfl, hF.tmp 91 rfl, hF.tmp 94 rfl]; rfl) rfl (by decide) (by decide) (by kernel_rfl) ?_
    clear hF hH; intro a w b95 hF hH
    refine hK _ _ ?_; clear hK K
    refine wpList_plain rfl fun K hK => ?_
    refine w_append 78 95 (xs := (encI (msgF m))) (ys := (le4 (Crc.moreI 0 (encI (msgF m))))) hF hH rfl Tryd.underlying53 ty5 rfl rfl rfl rfl (Row.rd (ok' := fun k_ => (fun _ => False) k_ ∨ (.slice (some ⟨b95, 0, none⟩) ((le4 (Crc.moreI 0 (encI (msgF m))))).length ((le4 (Crc.moreI 0 (encI (msgF m))))).length : Value).ownBlock = some k_) (hH.row 95 rfl) (fun _ hk_ _ => .inl hk_) (fun _ hk_ => .inr hk_)) (by rintro k_ (hk_ | hk_); exact .inr hk_; exact .inl hk_) (hF.tmp 83 rfl) (hF.tmp 95 rfl) (by have := msgI_len hr hb; simp only [le4, List.length_cons, List.length_nil]; omega) (by have := msgI_len hr hb; simp only [le4, List.length_cons, List.length_nil, maxLen]; omega) (fun _ => False) (fun w' v' h => row_flat h _) (fun k_ hk_ => hk_.elim) ?_
    clear hF hH; intro a w v96 hF hH
    refine hK _ _ ?_; clear hK K
    refine l_at hF rfl rfl rfl (x_move (hF.tmp 13 rfl)) ?_; clear hF; intro a hF
    refine l_at hF rfl rfl rfl (x_assign (hF.tmp 96 rfl)) ?_; clear hF; intro a hF
    refine l_at hF rfl rfl rfl (x_assign (hF.tmp 97 rfl)) ?_; clear hF; intro a hF
    refine wpList_nil ?_
    refine hK27 _ _ ?_
    refine wp_ret ?_
    try simp only [Exit.then, Exit.inBlock]
    rw [encM_yes hr] at hH
    exact fin_ret hF (res2 hF rfl rfl rfl) ⟨_, by rw [encME_yes hr] <;> rfl, hH.mods, Hp.out hH 78 rfl⟩
  ·
   refine w_call hF (x_enter Tryd.func28 (by kernel_rfl) rfl (by simp only [List.map_toArray, List.map_cons, List.map_nil, hF.tmp 31 rfl] <;> rfl)) (bI_calls _ (by have := (rightM_parts hr).tx; exact ⟨by omega, by omega⟩)) rfl rfl ?_
   rintro _ w ⟨vr32, rfl, hm_, hr_⟩; refine ⟨_, rfl, ?_⟩; clear hF; intro a hF; have hH := Hp.rowOut hH 32 hm_ hr_; obtain ⟨Ar32, cr32, rfl⟩ := (hH.row 32 rfl).form
   clear hS; have hS : SL _ _ := SL.of hH (sub_cons (sub_nil _) 1 rfl); refine ⟨hS, ?_⟩
   have hH := hH.freeze 32 rfl (fun kb => (Value.slice Ar32 (bI m.tx).length cr32).ownBlock = some kb) (fun kb => ⟨fun h => .inr h, fun h => h.resolve_left id⟩)
   refine r_take 15 hF rfl rfl rfl (by kernel_rfl) (by kernel_rfl) (by kernel_rfl) (fun _ _ _ h => h) rfl hS (fun w hS => x_buildS (cells := #[.int .i64 2, .slice Ar32 (bI m.tx).length cr32]) (places := #[(0, 1), (1, 1)]) Tryd.underlying71 ty71 (by kernel_rfl) (by simp only [List.map_toArray, List.map_cons, List.map_nil, hF.tmp 32 rfl] <;> rfl) rfl) rfl ?_; clear hF; intro a hF
   refine r_do 9 rfl (by kernel_rfl) rfl rfl ?_
   refine w_lit 27 (enc := Value.int .u8) (h1 := fun _ => rfl) ([m.kind, m.src, m.dst]) hF hH rfl Tryd.underlying53 ty5 (by simp only [List.map_toArray, List.map_cons, List.map_nil, hF.tmp 20 rfl, hF.tmp 23 rfl, hF.tmp 26 rfl]; rfl) rfl (by decide) (by decide) (by kernel_rfl) ?_
   clear hF hH; intro a w b27 hF hH
   clear hS; have hS : SL _ _ := SL.of hH (sub_cons (sub_nil _) 1 rfl); refine ⟨hS, ?_⟩
   have hH := hH.freeze 27 rfl (fun kb => (Value.slice (some ⟨b27, 0, none⟩) ([m.kind, m.src, m.dst]).length ([m.kind, m.src, m.dst]).length).ownBlock = some kb) (fun kb => ⟨fun h => .inr h, fun h => h.resolve_left id⟩)
   refine r_take 10 hF rfl rfl rfl (by kernel_rfl) (by kernel_rfl) (by kernel_rfl) (fun _ _ _ h => h) rfl hS (fun w hS => x_buildS (cells := #[.int .i64 1, .slice (some ⟨b27, 0, none⟩) ([m.kind, m.src, m.dst]).length ([m.kind, m.src, m.dst]).length]) (places := #[(0, 1), (1, 1)]) Tryd.underlying71 ty71 (by kernel_rfl) (by simp only [List.map_toArray, List.map_cons, List.map_nil, hF.tmp 27 rfl] <;> rfl) rfl) rfl ?_; clear hF; intro a hF
   refine r_do 16 rfl (by kernel_rfl) rfl rfl ?_
   refine w_litE 4 FE ([((1, [m.kind, m.src, m.dst]) : Fld), ((2, bI m.tx) : Fld)]) #[.int .i64 1, .slice (some ⟨b27, 0, none⟩) ([m.kind, m.src, m.dst]).length ([m.kind, m.src, m.dst]).length, .int .i64 2, .slice Ar32 (bI m.tx).length cr32] (fun kb => (fun kb => (Value.slice (some ⟨b27, 0, none⟩) ([m.kind, m.src, m.dst]).length ([m.kind, m.src, m.dst]).length).ownBlock = some kb) kb ∨ (fun kb => (Value.slice Ar32 (bI m.tx).length cr32).ownBlock = some kb) kb) hF hH rfl Tryd.underlying73 ty71 (by simp only [List.map_toArray, List.map_cons, List.map_nil, hF.tmp 28 rfl, hF.tmp 33 rfl] <;> rfl) rfl (by decide) (by decide) (by kernel_rfl) ((Elems.single (fld_mk (f := ((1, [m.kind, m.src, m.dst]) : Fld)) (((hH.rd 27 rfl)).move (fun _ _ _ => rfl) (fun k h _ => .inl h)))).append (Elems.single (fld_mk (f := ((2, bI m.tx) : Fld)) (((hH.rd 32 rfl)).move (fun _ _ _ => rfl) (fun k h _ => .inr h))))) (fun kb hk => hk.elim (fun h => ⟨27, _, rfl, h⟩) (fun h => ⟨32, _, rfl, h⟩)) ?_
   clear hF hH; intro a w b34 hF hH
   clear hS; have hS : SL _ _ := SL.of hH (sub_cons (sub_nil _) 1 rfl); refine ⟨hS, ?_⟩
   refine r_take 17 hF rfl rfl rfl (by kernel_rfl) (by kernel_rfl) (by kernel_rfl) (fun _ _ _ h => h) rfl hS (fun w hS => x_assign (hF.tmp 34 rfl)) rfl ?_; clear hF; intro a hF
   refine r_end (by kernel_rfl) ?_; clear hS
   refine hK5 _ _ ?_
   refine wp_seq_k fun khK28 hK28 => ?_
   refine wp_seq_k fun khK29 hK29 => ?_
   refine wp_region_lit ?_
   refine l_at hF rfl rfl rfl (x_faddr Tryd.underlying30 rfl ty26 (by decide) (hF.tmp 1 rfl) rfl) ?_; clear hF; intro a hF
   refine l_at hF rfl rfl rfl (x_load1 ty26 (hF.tmp 35 rfl) (blk_cell (hH.at 1 rfl) 0 rfl)) ?_; clear hF; intro a hF
   refine l_at hF rfl rfl rfl (x_eql (hF.tmp 36 rfl) rfl) ?_; clear hF; intro a hF
   refine wpList_nil ?_
   refine hK29 _ _ ?_
   refine wp_cond_split (hF.tmp 37 rfl) (fun hc37 => ?_) (fun hc37 => ?_)
   ·have hk37_9 := hc37; try simp only [Bool.or_eq_true, Bool.and_eq_true, Bool.or_eq_false_iff, Bool.and_eq_false_iff, Bool.not_eq_true', Bool.not_eq_false', decide_eq_true_eq, decide_eq_false_iff_not, Bool.not_true, Bool.not_false] at hc37
    have hnl := nodes_len ((rightM_parts hr).prep hc37).2.1 (by omega) (by omega)
    have hcl := ((rightM_parts hr).prep hc37).2.2.1
    refine wp_seq_k fun khK30 hK30 => ?_
    refine wp_region_lit ?_
    refine l_at hF rfl rfl rfl (x_buildS (cells := #[.int .i64 3, .slice none 0 0]) (places := #[(0, 1), (1, 1)]) Tryd.underlying71 ty71 (by kernel_rfl) (by simp only [List.map_toArray, List.map_cons, List.map_nil] <;> rfl) rfl) ?_; clear hF; intro a hF
    refine wpList_plain rfl fun K hK => ?_
    refine w_alloc 5 hF hH rfl ty71 ?_
    clear hF hH; intro a w b5 hF hH
    refine hK _ _ ?_; clear hK K
    refine wpList_plain rfl fun K hK => ?_
    refine w_storeA 5 hH ty71 rfl (hF.tmp 5 rfl) (hF.tmp 38 rfl) rfl (by simp [Value.cells, Value.oneCell']) rfl ?_
    clear hH; intro w hH
    refine hK _ _ ?_; clear hK K
    have hH := hH.row0 50 (.int .u8) 5
    refine wpList_nil ?_
    refine hK30 _ _ ?_
    refine wp_seq_k fun khK31 hK31 => ?_
    refine wp_seq_k fun khK32 hK32 => ?_
    refine wp_region_lit ?_
    refine l_at hF rfl rfl rfl (x_faddr Tryd.underlying30 rfl ty27 (by decide) (hF.tmp 1 rfl) rfl) ?_; clear hF; intro a hF
    refine l_at hF rfl rfl rfl (x_load1 ty27 (hF.tmp 39 rfl) (blk_cell (hH.at 1 rfl) 4 rfl)) ?_; clear hF; intro a hF
    refine l_at hF rfl rfl rfl (x_len_slice Tryd.underlying27 (hF.tmp 40 rfl)) ?_; clear hF; intro a hF
    refine l_at hF rfl rfl rfl (x_move rfl) ?_; clear hF; intro a hF
    refine wpList_nil ?_
    refine hK32 _ _ ?_
    refine wp_block ?_
    refine wp_loop_ghost (fun n_ a w => ∃ k : Nat, ∃ Ad : Option Addr, ∃ cd : Nat, n_ = m.nodes.length - k ∧ (k ≤ m.nodes.length) ∧ Fr 98 a [(1, .pointer (some ⟨b1, 0, none⟩)), (4, .slice (some ⟨b34, 0, none⟩) ([((1, [m.kind, m.src, m.dst]) : Fld), ((2, bI m.tx) : Fld)]).length ([((1, [m.kind, m.src, m.dst]) : Fld), ((2, bI m.tx) : Fld)]).length), (5, .pointer (some ⟨b5, 0, none⟩)), (40, .slice Am0 m.nodes.length cm0), (41, .int .i64 (m.nodes.length : Int)), (42, .int .i64 (k : Int))] ∧ Hp (fun _ => False) w0 w [(900, .rd_ (.int .i64) Am0 m.nodes cm0 (fun k => k < w0.heap.size)), (901, .rd_ ChgE Am1 m.changes cm1 (fun k => k < w0.heap.size)), (990, .lib pp), (1, .blk b1 (.cells #[.int .i64 m.kind, .int .i64 m.src, .int .i64 m.dst, .int .i64 m.tx, .slice Am0 m.nodes.length cm0, .slice Am1 m.changes.length cm1] 30 (0, 0))), (32, .rd_ (.int .u8) Ar32 (bI m.tx) cr32 (fun kb => (Value.slice Ar32 (bI m.tx).length cr32).ownBlock = some kb)), (27, .rd_ (.int .u8) (some ⟨b27, 0, none⟩) ([m.kind, m.src, m.dst]) ([m.kind, m.src, m.dst]).length (fun kb => (Value.slice (some ⟨b27, 0, none⟩) ([m.kind, m.src, m.dst]).length ([m.kind, m.src, m.dst]).length).ownBlock = some kb)), (4, .row FE 71 (.slice (some ⟨b34, 0, none⟩) ([((1, [m.kind, m.src, m.dst]) : Fld), ((2, bI m.tx) : Fld)]).length ([((1, [m.kind, m.src, m.dst]) : Fld), ((2, bI m.tx) : Fld)]).length) ([((1, [m.kind, m.src, m.dst]) : Fld), ((2, bI m.tx) : Fld)]) (fun kb => (fun kb => (Value.slice (some ⟨b27, 0, none⟩) ([m.kind, m.src, m.dst]).length ([m.kind, m.src, m.dst]).length).ownBlock = some kb) kb ∨ (fun kb => (Value.slice Ar32 (bI m.tx).length cr32).ownBlock = some kb) kb)), (5, .blk b5 (.cells #[.int .i64 3, .slice Ad (m.nodes.take k).length cd] 71 (0, 0))), (50, .row (.int .u8) 5 (.slice Ad (m.nodes.take k).length cd) (m.nodes.take k) (fun _ => False))]) (m.nodes.length) ?_ ?_
    ·exact ⟨0, none, 0, rfl, by omega, ((((((hF.bare.add hF 42 rfl).add hF 41 rfl).add hF 40 rfl).add hF 5 rfl).add hF 4 rfl).add hF 1 rfl), hH.sub _ (sub_cons (sub_cons (sub_cons (sub_cons (sub_cons (sub_cons (sub_cons (sub_cons (sub_cons (sub_nil _) 50 rfl) 5 rfl) 4 rfl) 27 rfl) 32 rfl) 1 rfl) 990 rfl) 901 rfl) 900 rfl)⟩
    ·rintro _ a w ⟨k, Ad, cd, rfl, hq0_0, hF, hH⟩
     refine wp_seq_k fun khK33 hK33 => ?_
     refine wp_region_lit ?_
     refine l_at hF rfl rfl rfl (x_lss (hF.tmp 42 rfl) (hF.tmp 41 rfl)) ?_; clear hF; intro a hF
     refine wpList_nil ?_
     refine hK33 _ _ ?_
     refine wp_seq_k fun khK34 hK34 => ?_
     refine wp_cond_split (hF.tmp 43 rfl) (fun hc43 => ?_) (fun hc43 => ?_)
     ·have hk43_10 := hc43; try simp only [Bool.or_eq_true, Bool.and_eq_true, Bool.or_eq_false_iff, Bool.and_eq_false_iff, Bool.not_eq_true', Bool.not_eq_false', decide_eq_true_eq, decide_eq_false_iff_not, Bool.not_true, Bool.not_false] at hc43
      refine wp_skip ?_
      refine hK34 _ _ ?_
      refine wp_seq_k fun khK35 hK35 => ?_
      refine wp_block ?_
      refine wp_seq_k fun khK36 hK36 => ?_
      refine wp_region_lit ?_
      have hmem : (gi m.nodes (k : Int)) ∈ m.nodes := List.mem_of_getElem? (gi_some (xs := m.nodes) (i := (k : Int)) (by omega) (by omega))
      refine l_at hF rfl rfl rfl (x_iaddr_A Tryd.underlying27 ty3 ((hH.rd 900 rfl)) (hF.tmp 40 rfl) (hF.tmp 42 rfl) (by omega) (by omega) _) ?_; clear hF; intro a hF
      refine l_at hF rfl rfl rfl (x_load1 ty3 (hF.tmp 44 rfl) (((hH.rd 900 rfl)).cellA (gi_some (i := (k : Int)) (by omega) (by omega)))) ?_; clear hF; intro a hF
      refine l_at hF rfl rfl rfl (x_assign (hF.tmp 45 rfl)) ?_; clear hF; intro a hF
      refine wpList_nil ?_
      refine hK36 _ _ ?_
      refine wp_region_lit ?_
      refine l_at hF rfl rfl rfl (x_faddr Tryd.underlying71 rfl ty53 (by decide) (hF.tmp 5 rfl) rfl) ?_; clear hF; intro a hF
      refine l_at hF rfl rfl rfl (x_load1 ty53 (hF.tmp 46 rfl) (blk_cell (hH.at 5 rfl) 1 rfl)) ?_; clear hF; intro a hF
      refine l_at hF rfl rfl rfl (x_move (hF.tmp 7 rfl)) ?_; clear hF; intro a hF
      refine l_at hF rfl rfl rfl (x_conv Tryd.underlying5 ⟨_, Tryd.underlying3⟩ (hF.tmp 48 rfl) (wu8 (by have := nodes_in ((rightM_parts hr).prep hc37).2.1 _ hmem; omega) (by have := nodes_in ((rightM_parts hr).prep hc37).2.1 _ hmem; omega))) ?_; clear hF; intro a hF
      refine wpList_plain rfl fun K hK => ?_
      refine w_lit 950 (enc := Value.int .u8) (h1 := fun _ => rfl) ([(gi m.nodes (k : Int))]) hF hH rfl Tryd.underlying53 ty5 (by simp only [List.map_toArray, List.map_cons, List.map_nil, hF.tmp 49 rfl]; rfl) rfl (by decide) (by decide) (by kernel_rfl) ?_
      clear hF hH; intro a w b50 hF hH
      refine hK _ _ ?_; clear hK K
      refine wpList_plain rfl fun K hK => ?_
      refine w_append 50 950 (xs := (m.nodes.take k)) (ys := ([(gi m.nodes (k : Int))])) hF hH rfl Tryd.underlying53 ty5 rfl rfl rfl rfl (Row.rd (ok' := fun k_ => (fun _ => False) k_ ∨ (.slice (some ⟨b50, 0, none⟩) ([(gi m.nodes (k : Int))]).length ([(gi m.nodes (k : Int))]).length : Value).ownBlock = some k_) (hH.row 950 rfl) (fun _ hk_ _ => .inl hk_) (fun _ hk_ => .inr hk_)) (by rintro k_ (hk_ | hk_); exact .inr hk_; exact .inl hk_) (hF.tmp 47 rfl) (hF.tmp 50 rfl) (by simp only [List.length_cons, List.length_nil, List.length_take]; omega) (by simp only [List.length_cons, List.length_nil, List.length_take, maxLen]; omega) (fun _ => False) (fun w' v' h => row_flat h _) (fun k_ hk_ => hk_.elim) ?_
      clear hF hH; intro a w v51 hF hH
      refine hK _ _ ?_; clear hK K
      obtain ⟨A51, c51, rfl⟩ := (hH.row 50 rfl).form
      refine l_at hF rfl rfl rfl (x_faddr Tryd.underlying71 rfl ty53 (by decide) (hF.tmp 5 rfl) rfl) ?_; clear hF; intro a hF
      refine wpList_plain rfl fun K hK => ?_
      refine w_store 5 hH ty53 rfl (hF.tmp 52 rfl) (hF.tmp 51 rfl) rfl (one1 rfl rfl) (by first | decide | exact Nat.le_of_ble_eq_true rfl) ?_
      clear hH; intro w hH
      refine hK _ _ ?_; clear hK K
      refine wpList_nil ?_
      refine hK35 _ _ ?_
      refine wp_region_lit ?_
      refine l_at hF rfl rfl rfl (x_add (hF.tmp 42 rfl) rfl (w64 (by omega) (by omega))) ?_; clear hF; intro a hF
      refine l_at hF rfl rfl rfl (x_move (hF.tmp 53 rfl)) ?_; clear hF; intro a hF
      refine wpList_nil ?_
      have hHs : Hp (fun _ => False) w0 w [(900, .rd_ (.int .i64) Am0 m.nodes cm0 (fun k => k < w0.heap.size)), (901, .rd_ ChgE Am1 m.changes cm1 (fun k => k < w0.heap.size)), (990, .lib pp), (1, .blk b1 (.cells #[.int .i64 m.kind, .int .i64 m.src, .int .i64 m.dst, .int .i64 m.tx, .slice Am0 m.nodes.length cm0, .slice Am1 m.changes.length cm1] 30 (0, 0))), (32, .rd_ (.int .u8) Ar32 (bI m.tx) cr32 (fun kb => (Value.slice Ar32 (bI m.tx).length cr32).ownBlock = some kb)), (27, .rd_ (.int .u8) (some ⟨b27, 0, none⟩) ([m.kind, m.src, m.dst]) ([m.kind, m.src, m.dst]).length (fun kb => (Value.slice (some ⟨b27, 0, none⟩) ([m.kind, m.src, m.dst]).length ([m.kind, m.src, m.dst]).length).ownBlock = some kb)), (4, .row FE 71 (.slice (some ⟨b34, 0, none⟩) ([((1, [m.kind, m.src, m.dst]) : Fld), ((2, bI m.tx) : Fld)]).length ([((1, [m.kind, m.src, m.dst]) : Fld), ((2, bI m.tx) : Fld)]).length) ([((1, [m.kind, m.src, m.dst]) : Fld), ((2, bI m.tx) : Fld)]) (fun kb => (fun kb => (Value.slice (some ⟨b27, 0, none⟩) ([m.kind, m.src, m.dst]).length ([m.kind, m.src, m.dst]).length).ownBlock = some kb) kb ∨ (fun kb => (Value.slice Ar32 (bI m.tx).length cr32).ownBlock = some kb) kb)), (5, .blk b5 (.cells #[.int .i64 3, .slice A51 (m.nodes.take k ++ [(gi m.nodes (k : Int))]).length c51] 71 (0, 0))), (50, .row (.int .u8) 5 (.slice A51 (m.nodes.take k ++ [(gi m.nodes (k : Int))]).length c51) (m.nodes.take k ++ [(gi m.nodes (k : Int))]) (fun _ => False))] := hH.sub _ (sub_cons (sub_cons (sub_cons (sub_cons (sub_cons (sub_cons (sub_cons (sub_cons (sub_cons (sub_nil _) 50 rfl) 5 rfl) 4 rfl) 27 rfl) 32 rfl) 1 rfl) 990 rfl) 901 rfl) 900 rfl)
      rw [← gi_step hc43] at hHs
      exact ⟨_, by omega, ⟨k + 1, A51, c51, rfl, by omega, ((((((hF.bare.add hF 42 rfl).add hF 41 rfl).add hF 40 rfl).add hF 5 rfl).add hF 4 rfl).add hF 1 rfl), hHs⟩⟩
     ·have hk43_11 := hc43; try simp only [Bool.or_eq_true, Bool.and_eq_true, Bool.or_eq_false_iff, Bool.and_eq_false_iff, Bool.not_eq_true', Bool.not_eq_false', decide_eq_true_eq, decide_eq_false_iff_not, Bool.not_true, Bool.not_false] at hc43
      refine wp_exit ?_
      refine hK31 _ _ ?_
      refine wp_seq_k fun khK37 hK37 => ?_
      refine wp_region_lit ?_
      obtain rfl : k = m.nodes.length := by omega
      rw [List.take_length] at hH
      have hH := hH.freeze 50 rfl (fun kb => (Value.slice Ad m.nodes.length cd).ownBlock = some kb) (fun kb => ⟨fun h => .inr h, fun h => h.resolve_left id⟩)
      refine l_at hF rfl rfl rfl (x_move (hF.tmp 4 rfl)) ?_; clear hF; intro a hF
      refine l_at hF rfl rfl rfl (x_loadn ty71 (hF.tmp 5 rfl) rfl (blk_whole (hH.at 5 rfl))) ?_; clear hF; intro a hF
      refine wpList_plain rfl fun K hK => ?_
      refine w_lit1 56 FE ((3, m.nodes) : Fld) #[.int .i64 3, .slice Ad m.nodes.length cd] (fun kb => (Value.slice Ad m.nodes.length cd).ownBlock = some kb) hF hH rfl Tryd.underlying73 ty71 (by simp only [List.map_toArray, List.map_cons, List.map_nil, hF.tmp 55 rfl] <;> rfl) (by decide) (by kernel_rfl) (fld_mk (f := ((3, m.nodes) : Fld)) ((hH.rd 50 rfl))) (fun kb hk => ⟨50, _, rfl, hk⟩) ?_
      clear hF hH; intro a w b56 hF hb56_ hH
      refine hK _ _ ?_; clear hK K
      refine wpList_plain rfl fun K hK => ?_
      refine w_append 4 56 (xs := ([((1, [m.kind, m.src, m.dst]) : Fld), ((2, bI m.tx) : Fld)])) (ys := ([((3, m.nodes) : Fld)])) hF hH rfl Tryd.underlying73 ty71 rfl rfl rfl rfl ((hH.rd 56 rfl)) (by intro k_ hk_; exact .inr hk_) (hF.tmp 54 rfl) (hF.tmp 56 rfl) (by simp only [List.length_append, List.length_nil, List.length_cons, List.length_map, List.length_take] at *; omega) (by simp only [List.length_append, List.length_nil, List.length_cons, List.length_map, List.length_take, maxLen] at *; omega) (fun kb => (fun kb => (fun kb => (Value.slice (some ⟨b27, 0, none⟩) ([m.kind, m.src, m.dst]).length ([m.kind, m.src, m.dst]).length).ownBlock = some kb) kb ∨ (fun kb => (Value.slice Ar32 (bI m.tx).length cr32).ownBlock = some kb) kb) kb ∨ (fun kb => (fun kb => (Value.slice Ad m.nodes.length cd).ownBlock = some kb) kb ∨ kb = b56) kb) (fun w' v' h => h) (by rintro k_ (hk_ | hk_); exact .inl hk_; exact .inr hk_) ?_
      clear hF hH; intro a w v57 hF hH
      refine hK _ _ ?_; clear hK K
      refine l_at hF rfl rfl rfl (x_assign (hF.tmp 57 rfl)) ?_; clear hF; intro a hF
      refine wpList_nil ?_
      refine hK37 _ _ ?_
      refine wp_seq_k fun khK38 hK38 => ?_
      refine wp_region_lit ?_
      refine l_at hF rfl rfl rfl (x_faddr Tryd.underlying30 rfl ty28 (by decide) (hF.tmp 1 rfl) rfl) ?_; clear hF; intro a hF
      refine l_at hF rfl rfl rfl (x_load1 ty28 (hF.tmp 58 rfl) (blk_cell (hH.at 1 rfl) 5 rfl)) ?_; clear hF; intro a hF
      refine l_at hF rfl rfl rfl (x_len_slice Tryd.underlying28 (hF.tmp 59 rfl)) ?_; clear hF; intro a hF
      refine l_at hF rfl rfl rfl (x_move rfl) ?_; clear hF; intro a hF
      refine wpList_nil ?_
      refine hK38 _ _ ?_
      refine wp_block ?_
      refine wp_loop_ghost (fun n_ a w => ∃ k : Nat, ∃ v4 : Value, ∃ okv : Nat → Prop, n_ = m.changes.length - k ∧ (k ≤ m.changes.length) ∧ Fr 98 a [(4, v4), (59, .slice Am1 m.changes.length cm1), (60, .int .i64 (m.changes.length : Int)), (61, .int .i64 (k : Int))] ∧ Hp (fun _ => False) w0 w [(900, .rd_ (.int .i64) Am0 m.nodes cm0 (fun k => k < w0.heap.size)), (901, .rd_ ChgE Am1 m.changes cm1 (fun k => k < w0.heap.size)), (990, .lib pp), (1, .blk b1 (.cells #[.int .i64 m.kind, .int .i64 m.src, .int .i64 m.dst, .int .i64 m.tx, .slice Am0 m.nodes.length cm0, .slice Am1 m.changes.length cm1] 30 (0, 0))), (32, .rd_ (.int .u8) Ar32 (bI m.tx) cr32 (fun kb => (Value.slice Ar32 (bI m.tx).length cr32).ownBlock = some kb)), (27, .rd_ (.int .u8) (some ⟨b27, 0, none⟩) ([m.kind, m.src, m.dst]) ([m.kind, m.src, m.dst]).length (fun kb => (Value.slice (some ⟨b27, 0, none⟩) ([m.kind, m.src, m.dst]).length ([m.kind, m.src, m.dst]).length).ownBlock = some kb)), (4, .row FE 71 v4 (([((1, [m.kind, m.src, m.dst]) : Fld), ((2, bI m.tx) : Fld)] ++ [((3, m.nodes) : Fld)]) ++ (m.changes.take k).map (fun c => ((4, encC c) : Fld))) okv), (5, .blk b5 (.cells #[.int .i64 3, .slice Ad m.nodes.length cd] 71 (0, 0))), (50, .rd_ (.int .u8) Ad m.nodes cd (fun kb => (Value.slice Ad m.nodes.length cd).ownBlock = some kb)), (56, .rd_ FE (some ⟨b56, 0, none⟩) [((3, m.nodes) : Fld)] 1 (fun kb => (fun kb => (Value.slice Ad m.nodes.length cd).ownBlock = some kb) kb ∨ kb = b56))]) (m.changes.length) ?_ ?_
      ·exact ⟨0, v57, (fun kb => (fun kb => (fun kb => (Value.slice (some ⟨b27, 0, none⟩) ([m.kind, m.src, m.dst]).length ([m.kind, m.src, m.dst]).length).ownBlock = some kb) kb ∨ (fun kb => (Value.slice Ar32 (bI m.tx).length cr32).ownBlock = some kb) kb) kb ∨ (fun kb => (fun kb => (Value.slice Ad m.nodes.length cd).ownBlock = some kb) kb ∨ kb = b56) kb), rfl, by omega, ((((hF.bare.add hF 61 rfl).add hF 60 rfl).add hF 59 rfl).add hF 4 rfl), hH.sub _ (sub_cons (sub_cons (sub_cons (sub_cons (sub_cons (sub_cons (sub_cons (sub_cons (sub_cons (sub_cons (sub_nil _) 56 rfl) 50 rfl) 5 rfl) 4 rfl) 27 rfl) 32 rfl) 1 rfl) 990 rfl) 901 rfl) 900 rfl)⟩
      ·rintro _ a w ⟨k, v4, okv, rfl, hq2_0, hF, hH⟩
       refine wp_seq_k fun khK39 hK39 => ?_
       refine wp_region_lit ?_
       refine l_at hF rfl rfl rfl (x_lss (hF.tmp 61 rfl) (hF.tmp 60 rfl)) ?_; clear hF; intro a hF
       refine wpList_nil ?_
       refine hK39 _ _ ?_
       refine wp_seq_k fun khK40 hK40 => ?_
       refine wp_cond_split (hF.tmp 62 rfl) (fun hc62 => ?_) (fun hc62 => ?_)
       ·have hk62_12 := hc62; try simp only [Bool.or_eq_true, Bool.and_eq_true, Bool.or_eq_false_iff, Bool.and_eq_false_iff, Bool.not_eq_true', Bool.not_eq_false', decide_eq_true_eq, decide_eq_false_iff_not, Bool.not_true, Bool.not_false] at hc62
        refine wp_skip ?_
        refine hK40 _ _ ?_
        refine wp_seq_k fun khK41 hK41 => ?_
        refine wp_block ?_
        refine wp_seq_k fun khK42 hK42 => ?_
        refine wp_region_lit ?_
        obtain ⟨fA1, fc1, hfr1, hf1_0, hf1_1, hf1_2, hf1_3, hf1_4, hf1_5, hf1_6, hf1_7, hfw1⟩ := rd_chg ((hH.rd 901 rfl)) (gchg_some (xs := m.changes) (i := (k : Int)) (by omega) (by omega))
        have hH := hH.subrd 901 rfl 1007 hfr1 (fun _ h => h)
        have hH := hH.subcels 901 rfl 1499 hfw1 (Rd.inok ((hH.rd 901 rfl)) (by omega) _)
        have hH := hH.subcel 901 rfl 1500 hf1_0 (Rd.inok ((hH.rd 901 rfl)) (by omega) _)
        have hH := hH.subcel 901 rfl 1501 hf1_1 (Rd.inok ((hH.rd 901 rfl)) (by omega) _)
        have hH := hH.subcel 901 rfl 1502 hf1_2 (Rd.inok ((hH.rd 901 rfl)) (by omega) _)
        have hH := hH.subcel 901 rfl 1503 hf1_3 (Rd.inok ((hH.rd 901 rfl)) (by omega) _)
        have hH := hH.subcel 901 rfl 1504 hf1_4 (Rd.inok ((hH.rd 901 rfl)) (by omega) _)
        have hH := hH.subcel 901 rfl 1505 hf1_5 (Rd.inok ((hH.rd 901 rfl)) (by omega) _)
        have hH := hH.subcel 901 rfl 1506 hf1_6 (Rd.inok ((hH.rd 901 rfl)) (by omega) _)
        have hH := hH.subcel 901 rfl 1507 hf1_7 (Rd.inok ((hH.rd 901 rfl)) (by omega) _)
        refine l_at hF rfl rfl rfl (x_iaddr_A Tryd.underlying28 ty69 ((hH.rd 901 rfl)) (hF.tmp 59 rfl) (hF.tmp 61 rfl) (by omega) (by omega) _) ?_; clear hF; intro a hF
        refine l_at hF rfl rfl rfl (x_loadn ty69 (hF.tmp 63 rfl) rfl (hH.holds 1499 _ rfl)) ?_; clear hF; intro a hF
        refine wpList_plain rfl fun K hK => ?_
        refine w_alloc 9 hF hH rfl ty69 ?_
        clear hF hH; intro a w b9 hF hH
        refine hK _ _ ?_; clear hK K
        refine wpList_plain rfl fun K hK => ?_
        refine w_storeA 9 hH ty69 rfl (hF.tmp 9 rfl) (hF.tmp 64 rfl) rfl (by simp [Value.cells, Value.oneCell']) rfl ?_
        clear hH; intro w hH
        refine hK _ _ ?_; clear hK K
        refine wpList_nil ?_
        refine hK42 _ _ ?_
        refine wp_seq_k fun khK43 hK43 => ?_
        refine wp_region_lit ?_
        refine l_at hF rfl rfl rfl (x_loadn ty69 (hF.tmp 9 rfl) rfl (blk_whole (hH.at 9 rfl))) ?_; clear hF; intro a hF
        refine wpList_plain rfl fun K hK => ?_
        refine w_call hF (x_enter Tryd.func29 (by kernel_rfl) rfl (by simp only [List.map_toArray, List.map_cons, List.map_nil, hF.tmp 66 rfl] <;> rfl)) (encC_calls _ (hH.holds 990 _ rfl) ((hH.rd 1007 rfl)) (hb.changes _ (gchg_mem (xs := m.changes) (j := k) (by omega)))) rfl rfl ?_
        rintro _ w ⟨vr67, rfl, hm_, hr_⟩; refine ⟨_, rfl, ?_⟩; clear hF; intro a hF; have hH := Hp.rowOut hH 67 hm_ hr_; obtain ⟨Ar67, cr67, rfl⟩ := (hH.row 67 rfl).form
        refine hK _ _ ?_; clear hK K
        refine l_at hF rfl rfl rfl (x_move (hF.tmp 67 rfl)) ?_; clear hF; intro a hF
        refine l_at hF rfl rfl rfl (x_extract (hF.tmp 65 rfl) rfl) ?_; clear hF; intro a hF
        refine l_at hF rfl rfl rfl (x_extract (hF.tmp 65 rfl) rfl) ?_; clear hF; intro a hF
        refine l_at hF rfl rfl rfl (x_assign (hF.tmp 68 rfl)) ?_; clear hF; intro a hF
        refine l_at hF rfl rfl rfl (x_assign (hF.tmp 69 rfl)) ?_; clear hF; intro a hF
        refine wpList_nil ?_
        refine hK43 _ _ ?_
        refine wp_region_lit ?_
        have hH := hH.freeze 67 rfl (fun kb => (Value.slice Ar67 (encC (gchg m.changes (k : Int))).length cr67).ownBlock = some kb) (fun kb => ⟨fun h => .inr h, fun h => h.resolve_left id⟩)
        refine l_at hF rfl rfl rfl (x_move (hF.tmp 4 rfl)) ?_; clear hF; intro a hF
        refine l_at hF rfl rfl rfl (x_move (hF.tmp 10 rfl)) ?_; clear hF; intro a hF
        refine l_at hF rfl rfl rfl (x_buildS (cells := #[.int .i64 4, .slice Ar67 (encC (gchg m.changes (k : Int))).length cr67]) (places := #[(0, 1), (1, 1)]) Tryd.underlying71 ty71 (by kernel_rfl) (by simp only [List.map_toArray, List.map_cons, List.map_nil, hF.tmp 71 rfl] <;> rfl) rfl) ?_; clear hF; intro a hF
        refine wpList_plain rfl fun K hK => ?_
        refine w_lit1 73 FE ((4, (encC (gchg m.changes (k : Int)))) : Fld) #[.int .i64 4, .slice Ar67 (encC (gchg m.changes (k : Int))).length cr67] (fun kb => (Value.slice Ar67 (encC (gchg m.changes (k : Int))).length cr67).ownBlock = some kb) hF hH rfl Tryd.underlying73 ty71 (by simp only [List.map_toArray, List.map_cons, List.map_nil, hF.tmp 72 rfl] <;> rfl) (by decide) (by kernel_rfl) (fld_mk (f := ((4, (encC (gchg m.changes (k : Int)))) : Fld)) ((hH.rd 67 rfl))) (fun kb hk => ⟨67, _, rfl, hk⟩) ?_
        clear hF hH; intro a w b73 hF hb73_ hH
        refine hK _ _ ?_; clear hK K
        refine wpList_plain rfl fun K hK => ?_
        refine w_append 4 73 (xs := (([((1, [m.kind, m.src, m.dst]) : Fld), ((2, bI m.tx) : Fld)] ++ [((3, m.nodes) : Fld)]) ++ (m.changes.take k).map (fun c => ((4, encC c) : Fld)))) (ys := ([((4, (encC (gchg m.changes (k : Int)))) : Fld)])) hF hH rfl Tryd.underlying73 ty71 rfl rfl rfl rfl ((hH.rd 73 rfl)) (by intro k_ hk_; exact .inr hk_) (hF.tmp 70 rfl) (hF.tmp 73 rfl) (by simp only [List.length_append, List.length_nil, List.length_cons, List.length_map, List.length_take] at *; omega) (by simp only [List.length_append, List.length_nil, List.length_cons, List.length_map, List.length_take, maxLen] at *; omega) (fun kb => okv kb ∨ (fun kb => (fun kb => (Value.slice Ar67 (encC (gchg m.changes (k : Int))).length cr67).ownBlock = some kb) kb ∨ kb = b73) kb) (fun w' v' h => h) (by rintro k_ (hk_ | hk_); exact .inl hk_; exact .inr hk_) ?_
        clear hF hH; intro a w v74 hF hH
        refine hK _ _ ?_; clear hK K
        refine l_at hF rfl rfl rfl (x_assign (hF.tmp 74 rfl)) ?_; clear hF; intro a hF
        refine wpList_nil ?_
        refine hK41 _ _ ?_
        refine wp_region_lit ?_
        refine l_at hF rfl rfl rfl (x_add (hF.tmp 61 rfl) rfl (w64 (by omega) (by omega))) ?_; clear hF; intro a hF
        refine l_at hF rfl rfl rfl (x_move (hF.tmp 75 rfl)) ?_; clear hF; intro a hF
        refine wpList_nil ?_
        have hHs : Hp (fun _ => False) w0 w [(900, .rd_ (.int .i64) Am0 m.nodes cm0 (fun k => k < w0.heap.size)), (901, .rd_ ChgE Am1 m.changes cm1 (fun k => k < w0.heap.size)), (990, .lib pp), (1, .blk b1 (.cells #[.int .i64 m.kind, .int .i64 m.src, .int .i64 m.dst, .int .i64 m.tx, .slice Am0 m.nodes.length cm0, .slice Am1 m.changes.length cm1] 30 (0, 0))), (32, .rd_ (.int .u8) Ar32 (bI m.tx) cr32 (fun kb => (Value.slice Ar32 (bI m.tx).length cr32).ownBlock = some kb)), (27, .rd_ (.int .u8) (some ⟨b27, 0, none⟩) ([m.kind, m.src, m.dst]) ([m.kind, m.src, m.dst]).length (fun kb => (Value.slice (some ⟨b27, 0, none⟩) ([m.kind, m.src, m.dst]).length ([m.kind, m.src, m.dst]).length).ownBlock = some kb)), (4, .row FE 71 v74 ((([((1, [m.kind, m.src, m.dst]) : Fld), ((2, bI m.tx) : Fld)] ++ [((3, m.nodes) : Fld)]) ++ (m.changes.take k).map (fun c => ((4, encC c) : Fld))) ++ [((4, encC (gchg m.changes (k : Int))) : Fld)]) (fun kb => okv kb ∨ (fun kb => (fun kb => (Value.slice Ar67 (encC (gchg m.changes (k : Int))).length cr67).ownBlock = some kb) kb ∨ kb = b73) kb)), (5, .blk b5 (.cells #[.int .i64 3, .slice Ad m.nodes.length cd] 71 (0, 0))), (50, .rd_ (.int .u8) Ad m.nodes cd (fun kb => (Value.slice Ad m.nodes.length cd).ownBlock = some kb)), (56, .rd_ FE (some ⟨b56, 0, none⟩) [((3, m.nodes) : Fld)] 1 (fun kb => (fun kb => (Value.slice Ad m.nodes.length cd).ownBlock = some kb) kb ∨ kb = b56))] := hH.sub _ (sub_cons (sub_cons (sub_cons (sub_cons (sub_cons (sub_cons (sub_cons (sub_cons (sub_cons (sub_cons (sub_nil _) 56 rfl) 50 rfl) 5 rfl) 4 rfl) 27 rfl) 32 rfl) 1 rfl) 990 rfl) 901 rfl) 900 rfl)
        rw [chg_stepL hc62] at hHs
        exact ⟨_, by omega, ⟨k + 1, v74, (fun kb => okv kb ∨ (fun kb => (fun kb => (Value.slice Ar67 (encC (gchg m.changes (k : Int))).length cr67).ownBlock = some kb) kb ∨ kb = b73) kb), rfl, by omega, ((((hF.bare.add hF 61 rfl).add hF 60 rfl).add hF 59 rfl).add hF 4 rfl), hHs⟩⟩
       ·have hk62_13 := hc62; try simp only [Bool.or_eq_true, Bool.and_eq_true, Bool.or_eq_false_iff, Bool.and_eq_false_iff, Bool.not_eq_true', Bool.not_eq_false', decide_eq_true_eq, decide_eq_false_iff_not, Bool.not_true, Bool.not_false] at hc62
        refine wp_exit ?_
        refine hK28 _ _ ?_
        refine wp_seq_k fun khK44 hK44 => ?_
        refine wp_region_lit ?_
        obtain rfl : k = m.changes.length := by omega
        rw [List.take_length] at hH
        rw [msgF_1 hc37] at hH
        obtain ⟨Av, cv, rfl⟩ := (hH.row 4 rfl).form
        refine l_at hF rfl rfl rfl (x_move (hF.tmp 4 rfl)) ?_; clear hF; intro a hF
        refine wpList_plain rfl fun K hK => ?_
        refine w_call hF (x_enter Tryd.func30 (by kernel_rfl) rfl (by simp only [List.map_toArray, List.map_cons, List.map_nil, hF.tmp 77 rfl] <;> rfl)) (enc_at (Row.rd (ok' := fun k_ => okv k_ ∨ (.slice Av (msgF m).length cv : Value).ownBlock = some k_) (hH.row 4 rfl) (fun _ hk_ _ => .inl hk_) (fun _ hk_ => .inr hk_)) (msg_encR hr hb)) rfl rfl ?_
        rintro _ w ⟨vr78, rfl, hm_, hr_⟩; refine ⟨_, rfl, ?_⟩; clear hF; intro a hF; have hH := Hp.rowOut hH 78 hm_ hr_; obtain ⟨Ar78, cr78, rfl⟩ := (hH.row 78 rfl).form
        refine hK _ _ ?_; clear hK K
        refine l_at hF rfl rfl rfl (x_move (hF.tmp 78 rfl)) ?_; clear hF; intro a hF
        refine l_at hF rfl rfl rfl (x_extract (hF.tmp 76 rfl) rfl) ?_; clear hF; intro a hF
        refine l_at hF rfl rfl rfl (x_extract (hF.tmp 76 rfl) rfl) ?_; clear hF; intro a hF
        refine l_at hF rfl rfl rfl (x_assign (hF.tmp 79 rfl)) ?_; clear hF; intro a hF
        refine l_at hF rfl rfl rfl (x_assign (hF.tmp 80 rfl)) ?_; clear hF; intro a hF
        refine wpList_nil ?_
        refine hK44 _ _ ?_
        refine wp_seq_k fun khK45 hK45 => ?_
        refine wp_region_lit ?_
        refine l_at hF rfl rfl rfl (x_move (hF.tmp 12 rfl)) ?_; clear hF; intro a hF
        refine wpList_plain rfl fun K hK => ?_
        refine w_call hF (x_enter Tryd.func31 (by kernel_rfl) rfl (by simp only [List.map_toArray, List.map_cons, List.map_nil, hF.tmp 81 rfl] <;> rfl)) (Crc.sum_calls _ (Row.rd (ok' := fun k_ => (fun _ => False) k_ ∨ (.slice Ar78 (encI (msgF m)).length cr78 : Value).ownBlock = some k_) (hH.row 78 rfl) (fun _ hk_ _ => .inl hk_) (fun _ hk_ => .inr hk_))) rfl rfl ?_
        rintro _ w ⟨rfl, hm_⟩; refine ⟨_, rfl, ?_⟩; clear hF; intro a hF; have hH := hH.same hm_
        refine hK _ _ ?_; clear hK K
        refine l_at hF rfl rfl rfl (x_assign (hF.tmp 82 rfl)) ?_; clear hF; intro a hF
        refine wpList_nil ?_
        refine hK45 _ _ ?_
        refine wp_seq_k fun khK46 hK46 => ?_
        refine wp_region_lit ?_
        refine l_at hF rfl rfl rfl (x_move (hF.tmp 12 rfl)) ?_; clear hF; intro a hF
        refine l_at hF rfl rfl rfl (x_move (hF.tmp 14 rfl)) ?_; clear hF; intro a hF
        refine l_at hF rfl rfl rfl (x_conv Tryd.underlying5 ⟨_, Tryd.underlying76⟩ (hF.tmp 84 rfl) (IntKind.wrap_u8 _)) ?_; clear hF; intro a hF
        refine l_at hF rfl rfl rfl (x_move (hF.tmp 14 rfl)) ?_; clear hF; intro a hF
        refine l_at hF rfl rfl rfl (x_shr (hF.tmp 86 rfl) rfl (by omega) (shrU _).1) ?_; clear hF; intro a hF
        refine l_at hF rfl rfl rfl (x_conv Tryd.underlying5 ⟨_, Tryd.underlying76⟩ (hF.tmp 87 rfl) (IntKind.wrap_u8 _)) ?_; clear hF; intro a hF
        refine l_at hF rfl rfl rfl (x_move (hF.tmp 14 rfl)) ?_; clear hF; intro a hF
        refine l_at hF rfl rfl rfl (x_shr (hF.tmp 89 rfl) rfl (by omega) (shrU _).2.1) ?_; clear hF; intro a hF
        refine l_at hF rfl rfl rfl (x_conv Tryd.underlying5 ⟨_, Tryd.underlying76⟩ (hF.tmp 90 rfl) (IntKind.wrap_u8 _)) ?_; clear hF; intro a hF
        refine l_at hF rfl rfl rfl (x_move (hF.tmp 14 rfl)) ?_; clear hF; intro a hF
        refine l_at hF rfl rfl rfl (x_shr (hF.tmp 92 rfl) rfl (by omega) (shrU _).2.2) ?_; clear hF; intro a hF
        refine l_at hF rfl rfl rfl (x_conv Tryd.underlying5 ⟨_, Tryd.underlying76⟩ (hF.tmp 93 rfl) (IntKind.wrap_u8 _)) ?_; clear hF; intro a hF
        refine wpList_plain rfl fun K hK => ?_
        refine w_lit 95 (enc := Value.int .u8) (h1 := fun _ => rfl) (le4 (Crc.moreI 0 (encI (msgF m)))) hF hH rfl Tryd.underlying53 ty5 (by simp only [List.map_toArray, List.map_cons, List.map_nil, hF.tmp 85 rfl, hF.tmp 88 rfl, hF.tmp 91 rfl, hF.tmp 94 rfl]; rfl) rfl (by decide) (by decide) (by kernel_rfl) ?_
        clear hF hH; intro a w b95 hF hH
        refine hK _ _ ?_; clear hK K
        refine wpList_plain rfl fun K hK => ?_
        refine w_append 78 95 (xs := (encI (msgF m))) (ys := (le4 (Crc.moreI 0 (encI (msgF m))))) hF hH rfl Tryd.underlying53 ty5 rfl rfl rfl rfl (Row.rd (ok' := fun k_ => (fun _ => False) k_ ∨ (.slice (some ⟨b95, 0, none⟩) ((le4 (Crc.moreI 0 (encI (msgF m))))).length ((le4 (Crc.moreI 0 (encI (msgF m))))).length : Value).ownBlock = some k_) (hH.row 95 rfl) (fun _ hk_ _ => .inl hk_) (fun _ hk_ => .inr hk_)) (by rintro k_ (hk_ | hk_); exact .inr hk_; exact .inl hk_) (hF.tmp 83 rfl) (hF.tmp 95 rfl) (by have := msgI_len hr hb; simp only [le4, List.length_cons, List.length_nil]; omega) (by have := msgI_len hr hb; simp only [le4, List.length_cons, List.length_nil, maxLen]; omega) (fun _ => False) (fun w' v' h => row_flat h _) (fun k_ hk_ => hk_.elim) ?_
        clear hF hH; intro a w v96 hF hH
        refine hK _ _ ?_; clear hK K
        refine l_at hF rfl rfl rfl (x_move (hF.tmp 13 rfl)) ?_; clear hF; intro a hF
        refine l_at hF rfl rfl rfl (x_assign (hF.tmp 96 rfl)) ?_; clear hF; intro a hF
        refine l_at hF rfl rfl rfl (x_assign (hF.tmp 97 rfl)) ?_; clear hF; intro a hF
        refine wpList_nil ?_
        refine hK46 _ _ ?_
        refine wp_ret ?_
        try simp only [Exit.then, Exit.inBlock]
        rw [encM_yes hr] at hH
        exact fin_ret hF (res2 hF rfl rfl rfl) ⟨_, by rw [encME_yes hr] <;> rfl, hH.mods, Hp.out hH 78 rfl⟩
   ·have hk37_14 := hc37; try simp only [Bool.or_eq_true, Bool.and_eq_true, Bool.or_eq_false_iff, Bool.and_eq_false_iff, Bool.not_eq_true', Bool.not_eq_false', decide_eq_true_eq, decide_eq_false_iff_not, Bool.not_true, Bool.not_false] at hc37
    refine wp_skip ?_
    refine hK28 _ _ ?_
    refine wp_seq_k fun khK47 hK47 => ?_
    refine wp_region_lit ?_
    obtain ⟨fs, hfs⟩ : ∃ fs, fs = [((1, [m.kind, m.src, m.dst]) : Fld), ((2, bI m.tx) : Fld)] := ⟨_, rfl⟩
    rw [← hfs] at hH hF
    have hfs2 : fs = msgF m := hfs.trans (msgF_0 hc37)
    subst hfs2
    refine l_at hF rfl rfl rfl (x_move (hF.tmp 4 rfl)) ?_; clear hF; intro a hF
    refine wpList_plain rfl fun K hK => ?_
    refine w_call hF (x_enter Tryd.func30 (by kernel_rfl) rfl (by simp only [List.map_toArray, List.map_cons, List.map_nil, hF.tmp 77 rfl] <;> rfl)) (enc_at (Row.rd (ok' := fun k_ => (fun kb => (fun kb => (Value.slice (some ⟨b27, 0, none⟩) ([m.kind, m.src, m.dst]).length ([m.kind, m.src, m.dst]).length).ownBlock = some kb) kb ∨ (fun kb => (Value.slice Ar32 (bI m.tx).length cr32).ownBlock = some kb) kb) k_ ∨ (.slice (some ⟨b34, 0, none⟩) (msgF m).length (msgF m).length : Value).ownBlock = some k_) (hH.row 4 rfl) (fun _ hk_ _ => .inl hk_) (fun _ hk_ => .inr hk_)) (msg_encR hr hb)) rfl rfl ?_
    rintro _ w ⟨vr78, rfl, hm_, hr_⟩; refine ⟨_, rfl, ?_⟩; clear hF; intro a hF; have hH := Hp.rowOut hH 78 hm_ hr_; obtain ⟨Ar78, cr78, rfl⟩ := (hH.row 78 rfl).form
    refine hK _ _ ?_; clear hK K
    refine l_at hF rfl rfl rfl (x_move (hF.tmp 78 rfl)) ?_; clear hF; intro a hF
    refine l_at hF rfl rfl rfl (x_extract (hF.tmp 76 rfl) rfl) ?_; clear hF; intro a hF
    refine l_at hF rfl rfl rfl (x_extract (hF.tmp 76 rfl) rfl) ?_; clear hF; intro a hF
    refine l_at hF rfl rfl rfl (x_assign (hF.tmp 79 rfl)) ?_; clear hF; intro a hF
    refine l_at hF rfl rfl rfl (x_assign (hF.tmp 80 rfl)) ?_; clear hF; intro a hF
    refine wpList_nil ?_
    refine hK47 _ _ ?_
    refine wp_seq_k fun khK48 hK48 => ?_
    refine wp_region_lit ?_
    refine l_at hF rfl rfl rfl (x_move (hF.tmp 12 rfl)) ?_; clear hF; intro a hF
    refine wpList_plain rfl fun K hK => ?_
    refine w_call hF (x_enter Tryd.func31 (by kernel_rfl) rfl (by simp only [List.map_toArray, List.map_cons, List.map_nil, hF.tmp 81 rfl] <;> rfl)) (Crc.sum_calls _ (Row.rd (ok' := fun k_ => (fun _ => False) k_ ∨ (.slice Ar78 (encI (msgF m)).length cr78 : Value).ownBlock = some k_) (hH.row 78 rfl) (fun _ hk_ _ => .inl hk_) (fun _ hk_ => .inr hk_))) rfl rfl ?_
    rintro _ w ⟨rfl, hm_⟩; refine ⟨_, rfl, ?_⟩; clear hF; intro a hF; have hH := hH.same hm_
    refine hK _ _ ?_; clear hK K
    refine l_at hF rfl rfl rfl (x_assign (hF.tmp 82 rfl)) ?_; clear hF; intro a hF
    refine wpList_nil ?_
    refine hK48 _ _ ?_
    refine wp_seq_k fun khK49 hK49 => ?_
    refine wp_region_lit ?_
    refine l_at hF rfl rfl rfl (x_move (hF.tmp 12 rfl)) ?_; clear hF; intro a hF
    refine l_at hF rfl rfl rfl (x_move (hF.tmp 14 rfl)) ?_; clear hF; intro a hF
    refine l_at hF rfl rfl rfl (x_conv Tryd.underlying5 ⟨_, Tryd.underlying76⟩ (hF.tmp 84 rfl) (IntKind.wrap_u8 _)) ?_; clear hF; intro a hF
    refine l_at hF rfl rfl rfl (x_move (hF.tmp 14 rfl)) ?_; clear hF; intro a hF
    refine l_at hF rfl rfl rfl (x_shr (hF.tmp 86 rfl) rfl (by omega) (shrU _).1) ?_; clear hF; intro a hF
    refine l_at hF rfl rfl rfl (x_conv Tryd.underlying5 ⟨_, Tryd.underlying76⟩ (hF.tmp 87 rfl) (IntKind.wrap_u8 _)) ?_; clear hF; intro a hF
    refine l_at hF rfl rfl rfl (x_move (hF.tmp 14 rfl)) ?_; clear hF; intro a hF
    refine l_at hF rfl rfl rfl (x_shr (hF.tmp 89 rfl) rfl (by omega) (shrU _).2.1) ?_; clear hF; intro a hF
    refine l_at hF rfl rfl rfl (x_conv Tryd.underlying5 ⟨_, Tryd.underlying76⟩ (hF.tmp 90 rfl) (IntKind.wrap_u8 _)) ?_; clear hF; intro a hF
    refine l_at hF rfl rfl rfl (x_move (hF.tmp 14 rfl)) ?_; clear hF; intro a hF
    refine l_at hF rfl rfl rfl (x_shr (hF.tmp 92 rfl) rfl (by omega) (shrU _).2.2) ?_; clear hF; intro a hF
    refine l_at hF rfl rfl rfl (x_conv Tryd.underlying5 ⟨_, Tryd.underlying76⟩ (hF.tmp 93 rfl) (IntKind.wrap_u8 _)) ?_; clear hF; intro a hF
    refine wpList_plain rfl fun K hK => ?_
    refine w_lit 95 (enc := Value.int .u8) (h1 := fun _ => rfl) (le4 (Crc.moreI 0 (encI (msgF m)))) hF hH rfl Tryd.underlying53 ty5 (by simp only [List.map_toArray, List.map_cons, List.map_nil, hF.tmp 85 rfl, hF.tmp 88 rfl, hF.tmp 91 rfl, hF.tmp 94 rfl]; rfl) rfl (by decide) (by decide) (by kernel_rfl) ?_
    clear hF hH; intro a w b95 hF hH
    refine hK _ _ ?_; clear hK K
    refine wpList_plain rfl fun K hK => ?_
    refine w_append 78 95 (xs := (encI (msgF m))) (ys := (le4 (Crc.moreI 0 (encI (msgF m))))) hF hH rfl Tryd.underlying53 ty5 rfl rfl rfl rfl (Row.rd (ok' := fun k_ => (fun _ => False) k_ ∨ (.slice (some ⟨b95, 0, none⟩) ((le4 (Crc.moreI 0 (encI (msgF m))))).length ((le4 (Crc.moreI 0 (encI (msgF m))))).length : Value).ownBlock = some k_) (hH.row 95 rfl) (fun _ hk_ _ => .inl hk_) (fun _ hk_ => .inr hk_)) (by rintro k_ (hk_ | hk_); exact .inr hk_; exact .inl hk_) (hF.tmp 83 rfl) (hF.tmp 95 rfl) (by have := msgI_len hr hb; simp only [le4, List.length_cons, List.length_nil]; omega) (by have := msgI_len hr hb; simp only [le4, List.length_cons, List.length_nil, maxLen]; omega) (fun _ => False) (fun w' v' h => row_flat h _) (fun k_ hk_ => hk_.elim) ?_
    clear hF hH; intro a w v96 hF hH
    refine hK _ _ ?_; clear hK K
    refine l_at hF rfl rfl rfl (x_move (hF.tmp 13 rfl)) ?_; clear hF; intro a hF
    refine l_at hF rfl rfl rfl (x_assign (hF.tmp 96 rfl)) ?_; clear hF; intro a hF
    refine l_at hF rfl rfl rfl (x_assign (hF.tmp 97 rfl)) ?_; clear hF; intro a hF
    refine wpList_nil ?_
    refine hK49 _ _ ?_
    refine wp_ret ?_
    try simp only [Exit.then, Exit.inBlock]
    rw [encM_yes hr] at hH
    exact fin_ret hF (res2 hF rfl rfl rfl) ⟨_, by rw [encME_yes hr] <;> rfl, hH.mods, Hp.out hH 78 rfl⟩
end Go.Proofs.YtfocpadeflpabaaDoor.Act
