/- The laws of the bag, walked. -/
import Derived.Test.YtfocpadeflpabaaDoorBagAZf
import Derived.Test.YtfocpadeflpabaaDoorMsgCZf
set_option linter.unusedVariables false
set_option linter.unusedSimpArgs false
namespace Go.Proofs.YtfocpadeflpabaaDoor.Act
open Go.RowKit Go.Proofs.YtfocpadeflpabaaDoor.Sx Go.Proofs.YtfocpadeflpabaaDoor.Cod Go.Proofs.YtfocpadeflpabaaDoor.Num
set_option maxRecDepth 100000 in
set_option maxHeartbeats 1000000 in
theorem balive_calls (w0 : World) (hL : LibAt true w0) : Calls Tryd.prog 14 #[] w0 fun e w' => e = .returned (.bool true) ∧ Mods (fun _ => False) w0 w' := by
 refine calls_of_wp Tryd.func14 rfl ?_
 have hF := Fr.enter #[] 57 (slotsOf [] 0) (Nat.le_of_ble_eq_true rfl) (fun i v h => by have h2 := (get_slotsOf _ 0 i v h).2; simpa only [List.getElem?_toArray, Nat.sub_zero] using h2)
 have hH := Hp.nil (fun _ => False) w0
 rw [Tryd.ntmps14]
 revert hF; generalize (⟨(#[] : Array Value) ++ Array.replicate (57 - (#[] : Array Value).size) undef, []⟩ : Act) = a; intro hF
 have hH := hH.libN 990 hL
 refine wp_seq_k fun khK1 hK1 => ?_
 refine wp_region_lit ?_
 refine l_at hF rfl rfl rfl (x_assign rfl) ?_; clear hF; intro a hF
 refine wpList_nil ?_
 refine hK1 _ _ ?_
 refine wp_seq_k fun khK2 hK2 => ?_
 refine wp_region_lit ?_
 refine wpList_plain rfl fun K hK => ?_
 refine w_call hF (x_enter Tryd.func7 (by kernel_rfl) rfl (by simp only [List.map_toArray, List.map_cons, List.map_nil] <;> rfl)) (bnew_calls _) rfl rfl ?_
 rintro _ w ⟨bb, X0, rfl, hX0, hxo_, hm_, hxn_, hxr_⟩; refine ⟨_, rfl, ?_⟩; clear hF; intro a hF; have hH := hH.newX 100 hm_ hxo_ hxn_ (fun k hk => (hxr_ k hk).elim)
 refine hK _ _ ?_; clear hK K
 refine l_at hF rfl rfl rfl (x_assign (hF.tmp 8 rfl)) ?_; clear hF; intro a hF
 refine wpList_nil ?_
 refine hK2 _ _ ?_
 refine wp_seq_k fun khK3 hK3 => ?_
 refine wp_seq_k fun khK4 hK4 => ?_
 refine wp_region_lit ?_
 refine l_at hF rfl rfl rfl (x_move (hF.tmp 1 rfl)) ?_; clear hF; intro a hF
 refine l_at hF rfl rfl rfl (x_ptrnil Tryd.underlying23 (hF.tmp 9 rfl) rfl) ?_; clear hF; intro a hF
 refine wpList_nil ?_
 refine hK4 _ _ ?_
 refine wp_cond_false (hF.tmp 10 rfl) ?_
 refine wp_skip ?_
 refine hK3 _ _ ?_
 refine wp_seq_k fun khK5 hK5 => ?_
 refine wp_region_lit ?_
 refine l_at hF rfl rfl rfl (x_move (hF.tmp 1 rfl)) ?_; clear hF; intro a hF
 refine l_at hF rfl rfl rfl (x_buildS (cells := #[.int .i64 2, .int .i64 0, .int .i64 1, .int .i64 5, .slice none 0 0, .slice none 0 0]) (places := #[(0, 1), (1, 1), (2, 1), (3, 1), (4, 1), (5, 1)]) Tryd.underlying30 ty30 (by kernel_rfl) (by simp only [List.map_toArray, List.map_cons, List.map_nil] <;> rfl) rfl) ?_; clear hF; intro a hF
 refine wpList_plain rfl fun K hK => ?_
 refine w_call hF (x_enter Tryd.func9 (by kernel_rfl) rfl (by simp only [List.map_toArray, List.map_cons, List.map_nil, hF.tmp 11 rfl, hF.tmp 12 rfl] <;> rfl)) (send_calls (m := msgY) _ (hH.holds 990 _ rfl) hX0 (hH.okX 100 rfl) bag0_ok (fun k h hx => hH.sep 100 990 _ _ (by decide) rfl rfl k hx (.inr h)) (Rd.nil (.int .i64) _ (fun _ => False)) (Rd.nil ChgE _ (fun _ => False)) msgY_B (fun k h => h.elim) (fun k h => h.elim) (fun k h => h.elim) (fun k h => h.elim)) rfl rfl ?_
 rintro _ w ⟨X1, rfl, hX1, hg_⟩; refine ⟨_, rfl, ?_⟩; clear hF; intro a hF; have hH := hH.grew 100 rfl hg_ (fun k hk => hk.elim)
 refine hK _ _ ?_; clear hK K
 rw [live1] at hF
 have hX1 : BagA 51 58 bb bagA1 X1 := hX1
 refine l_at hF rfl rfl rfl (x_assign (hF.tmp 13 rfl)) ?_; clear hF; intro a hF
 refine wpList_nil ?_
 refine hK5 _ _ ?_
 refine wp_seq_k fun khK6 hK6 => ?_
 refine wp_region_lit ?_
 refine l_at hF rfl rfl rfl (x_move (hF.tmp 1 rfl)) ?_; clear hF; intro a hF
 refine wpList_plain rfl fun K hK => ?_
 refine w_call hF (x_enter Tryd.func16 (by kernel_rfl) rfl (by simp only [List.map_toArray, List.map_cons, List.map_nil, hF.tmp 14 rfl] <;> rfl)) (twice_calls _ (hH.holds 990 _ rfl) hX1 (hH.okX 100 rfl) bagA_ok.1 (fun k h hx => hH.sep 100 990 _ _ (by decide) rfl rfl k hx (.inr h)) 0) rfl rfl ?_
 rintro _ w ⟨X2, rfl, hX2, hg_⟩; refine ⟨_, rfl, ?_⟩; clear hF; intro a hF; have hH := hH.grew 100 rfl hg_ (fun k hk => hk.elim)
 refine hK _ _ ?_; clear hK K
 rw [live2] at hF
 have hX2 : BagA 51 58 bb bagA2 X2 := hX2
 refine l_at hF rfl rfl rfl (x_assign (hF.tmp 15 rfl)) ?_; clear hF; intro a hF
 refine wpList_nil ?_
 refine hK6 _ _ ?_
 refine wp_seq_k fun khK7 hK7 => ?_
 refine wp_region_lit ?_
 refine l_at hF rfl rfl rfl (x_move (hF.tmp 1 rfl)) ?_; clear hF; intro a hF
 refine wpList_plain rfl fun K hK => ?_
 refine w_call hF (x_enter Tryd.func10 (by kernel_rfl) rfl (by simp only [List.map_toArray, List.map_cons, List.map_nil, hF.tmp 16 rfl] <;> rfl)) (restart_calls _  hX2 (hH.okX 100 rfl) bagA_ok.2.1  1) rfl rfl ?_
 rintro _ w ⟨X3, rfl, hX3, hg_⟩; refine ⟨_, rfl, ?_⟩; clear hF; intro a hF; have hH := hH.grew 100 rfl hg_ (fun k hk => hk.elim)
 refine hK _ _ ?_; clear hK K
 rw [show rstE 1 = 0 from rfl] at hF
 have hX3 : BagA 51 58 bb bagA3 X3 := hX3
 refine l_at hF rfl rfl rfl (x_assign (hF.tmp 17 rfl)) ?_; clear hF; intro a hF
 refine wpList_nil ?_
 refine hK7 _ _ ?_
 refine wp_seq_k fun khK8 hK8 => ?_
 refine wp_region_lit ?_
 refine l_at hF rfl rfl rfl (x_move (hF.tmp 1 rfl)) ?_; clear hF; intro a hF
 refine wpList_plain rfl fun K hK => ?_
 refine w_call hF (x_enter Tryd.func12 (by kernel_rfl) rfl (by simp only [List.map_toArray, List.map_cons, List.map_nil, hF.tmp 19 rfl] <;> rfl)) (take_calls _ (hH.holds 990 _ rfl) hX3 (hH.okX 100 rfl) bagA_ok.2.2.1 (fun k h hx => hH.sep 100 990 _ _ (by decide) rfl rfl k hx (.inr h)) 1) rfl rfl ?_
 rintro _ w ⟨X4, An70, cn70, Ac70, cc70, okm70, rfl, hX4, hg_, ⟨h1_, h2_⟩, hf_, hap_⟩; refine ⟨_, rfl, ?_⟩; clear hF; intro a hF; have hHo := hH; have hH := hHo.grew 100 rfl hg_ (fun k hk => hk.elim); have hH := hH.readNew (w := _) 100 70 (own_old hHo) (fun Y hY => by cases hY; exact hap_) h1_ hf_; have hH := hH.readNew 100 71 (own_old2 hHo) (fun Y hY => by cases hY; exact hap_) h2_ hf_
 refine hK _ _ ?_; clear hK K
 refine l_at hF rfl rfl rfl (x_move (hF.tmp 20 rfl)) ?_; clear hF; intro a hF
 have hX4 : BagA 51 58 bb bagA4 X4 := hX4
 refine l_at hF rfl rfl rfl (x_extract (hF.tmp 18 rfl) rfl) ?_; clear hF; intro a hF
 refine l_at hF rfl rfl rfl (x_extract (hF.tmp 18 rfl) rfl) ?_; clear hF; intro a hF
 refine l_at hF rfl rfl rfl (x_extract (hF.tmp 18 rfl) rfl) ?_; clear hF; intro a hF
 refine wpList_plain rfl fun K hK => ?_
 refine w_alloc 5 hF hH rfl ty30 ?_
 clear hF hH; intro a w b5 hF hH
 refine hK _ _ ?_; clear hK K
 refine wpList_plain rfl fun K hK => ?_
 refine w_storeA 5 hH ty30 rfl (hF.tmp 5 rfl) (hF.tmp 21 rfl) rfl (by simp [Value.cells, Value.oneCell']) rfl ?_
 clear hH; intro w hH
 refine hK _ _ ?_; clear hK K
 refine l_at hF rfl rfl rfl (x_assign (hF.tmp 22 rfl)) ?_; clear hF; intro a hF
 refine l_at hF rfl rfl rfl (x_assign (hF.tmp 23 rfl)) ?_; clear hF; intro a hF
 refine wpList_nil ?_
 refine hK8 _ _ ?_
 refine wp_seq_k fun khK9 hK9 => ?_
 refine wp_region_lit ?_
 refine l_at hF rfl rfl rfl (x_move (hF.tmp 2 rfl)) ?_; clear hF; intro a hF
 refine l_at hF rfl rfl rfl (x_eql (hF.tmp 24 rfl) rfl) ?_; clear hF; intro a hF
 refine l_at hF rfl rfl rfl (x_move (hF.tmp 25 rfl)) ?_; clear hF; intro a hF
 refine l_atg hF ((wanted_of hF rfl rfl rfl rfl).trans rfl) rfl rfl (x_move (hF.tmp 3 rfl)) ?_; clear hF; intro a hF
 refine l_atg hF ((wanted_of hF rfl rfl rfl rfl).trans rfl) rfl rfl (x_eql (hF.tmp 27 rfl) rfl) ?_; clear hF; intro a hF
 refine l_at hF rfl rfl rfl (x_pickT (hF.tmp 26 rfl) rfl (hF.tmp 28 rfl)) ?_; clear hF; intro a hF
 refine l_at hF rfl rfl rfl (x_move (hF.tmp 29 rfl)) ?_; clear hF; intro a hF
 refine l_atg hF ((wanted_of hF rfl rfl rfl rfl).trans rfl) rfl rfl (x_move (hF.tmp 4 rfl)) ?_; clear hF; intro a hF
 refine l_atg hF ((wanted_of hF rfl rfl rfl rfl).trans rfl) rfl rfl (x_eql (hF.tmp 31 rfl) rfl) ?_; clear hF; intro a hF
 refine l_at hF rfl rfl rfl (x_pickT (hF.tmp 30 rfl) rfl (hF.tmp 32 rfl)) ?_; clear hF; intro a hF
 refine l_at hF rfl rfl rfl (x_move (hF.tmp 33 rfl)) ?_; clear hF; intro a hF
 rw [live3] at hF
 refine l_atg hF ((wanted_of hF rfl rfl rfl rfl).trans rfl) rfl rfl (x_move (hF.tmp 7 rfl)) ?_; clear hF; intro a hF
 refine l_atg hF ((wanted_of hF rfl rfl rfl rfl).trans rfl) rfl rfl (x_eql (hF.tmp 35 rfl) rfl) ?_; clear hF; intro a hF
 refine l_at hF rfl rfl rfl (x_pickT (hF.tmp 34 rfl) rfl (hF.tmp 36 rfl)) ?_; clear hF; intro a hF
 refine l_at hF rfl rfl rfl (x_move (hF.tmp 37 rfl)) ?_; clear hF; intro a hF
 refine l_atg hF ((wanted_of hF rfl rfl rfl rfl).trans rfl) rfl rfl (x_faddr Tryd.underlying30 rfl ty3 (by decide) (hF.tmp 5 rfl) rfl) ?_; clear hF; intro a hF
 refine l_atg hF ((wanted_of hF rfl rfl rfl rfl).trans rfl) rfl rfl (x_load1 ty3 (hF.tmp 39 rfl) (blk_cell (hH.at 5 rfl) 3 rfl)) ?_; clear hF; intro a hF
 rw [live4] at hF
 refine l_atg hF ((wanted_of hF rfl rfl rfl rfl).trans rfl) rfl rfl (x_eql (hF.tmp 40 rfl) rfl) ?_; clear hF; intro a hF
 refine l_at hF rfl rfl rfl (x_pickT (hF.tmp 38 rfl) rfl (hF.tmp 41 rfl)) ?_; clear hF; intro a hF
 refine l_at hF rfl rfl rfl (x_move (hF.tmp 42 rfl)) ?_; clear hF; intro a hF
 rw [live5] at hF
 refine l_atg hF ((wanted_of hF rfl rfl rfl rfl).trans rfl) rfl rfl (x_move (hF.tmp 6 rfl)) ?_; clear hF; intro a hF
 refine l_atg hF ((wanted_of hF rfl rfl rfl rfl).trans rfl) rfl rfl (x_not (hF.tmp 44 rfl)) ?_; clear hF; intro a hF
 refine l_at hF rfl rfl rfl (x_pickT (hF.tmp 43 rfl) rfl (hF.tmp 45 rfl)) ?_; clear hF; intro a hF
 refine l_at hF rfl rfl rfl (x_move (hF.tmp 46 rfl)) ?_; clear hF; intro a hF
 refine l_atg hF ((wanted_of hF rfl rfl rfl rfl).trans rfl) rfl rfl (x_move (hF.tmp 1 rfl)) ?_; clear hF; intro a hF
 refine wpList_on ((wanted_of hF rfl rfl rfl rfl).trans rfl) fun K hK => ?_
 refine w_call hF (x_enter Tryd.func11 (by kernel_rfl) rfl (by simp only [List.map_toArray, List.map_cons, List.map_nil, hF.tmp 48 rfl] <;> rfl)) (blen_calls _ hX4 (hH.okX 100 rfl) bagA_ok.2.2.2) rfl rfl ?_
 rintro _ w ⟨rfl, hm_⟩; refine ⟨_, rfl, ?_⟩; clear hF; intro a hF; have hH := hH.same hm_
 refine hK _ _ ?_; clear hK K
 rw [live6] at hF
 refine l_atg hF ((wanted_of hF rfl rfl rfl rfl).trans rfl) rfl rfl (x_eql (hF.tmp 49 rfl) rfl) ?_; clear hF; intro a hF
 refine l_at hF rfl rfl rfl (x_pickT (hF.tmp 47 rfl) rfl (hF.tmp 50 rfl)) ?_; clear hF; intro a hF
 refine l_at hF rfl rfl rfl (x_move (hF.tmp 51 rfl)) ?_; clear hF; intro a hF
 refine l_atg hF ((wanted_of hF rfl rfl rfl rfl).trans rfl) rfl rfl (x_move (hF.tmp 1 rfl)) ?_; clear hF; intro a hF
 refine wpList_on ((wanted_of hF rfl rfl rfl rfl).trans rfl) fun K hK => ?_
 refine w_call hF (x_enter Tryd.func17 (by kernel_rfl) rfl (by simp only [List.map_toArray, List.map_cons, List.map_nil, hF.tmp 53 rfl] <;> rfl)) (epoch_calls _ hX4 (hH.okX 100 rfl) bagA_ok.2.2.2 1) rfl rfl ?_
 rintro _ w ⟨rfl, hm_⟩; refine ⟨_, rfl, ?_⟩; clear hF; intro a hF; have hH := hH.same hm_
 refine hK _ _ ?_; clear hK K
 rw [live7] at hF
 refine l_atg hF ((wanted_of hF rfl rfl rfl rfl).trans rfl) rfl rfl (x_eql (hF.tmp 54 rfl) rfl) ?_; clear hF; intro a hF
 refine l_at hF rfl rfl rfl (x_pickT (hF.tmp 52 rfl) rfl (hF.tmp 55 rfl)) ?_; clear hF; intro a hF
 refine l_at hF rfl rfl rfl (x_assign (hF.tmp 56 rfl)) ?_; clear hF; intro a hF
 refine wpList_nil ?_
 refine hK9 _ _ ?_
 refine wp_ret ?_
 try simp only [Exit.then, Exit.inBlock]
 exact fin_ret hF (res1 (v := .bool true) hF rfl rfl) ⟨rfl, hH.mods⟩
set_option maxRecDepth 100000 in
set_option maxHeartbeats 1000000 in
theorem look_nil (w0 : World) (i : Int) : Calls Tryd.prog 19 #[.pointer none, .int .i64 i] w0 fun e w' => e = .returned (.tuple #[.agg #[.int .i64 0, .int .i64 0, .int .i64 0, .int .i64 0, .slice none 0 0, .slice none 0 0], .int .i64 1]) ∧ Mods (fun _ => False) w0 w' := by
 refine calls_of_wp Tryd.func19 rfl ?_
 have hF := Fr.enter #[.pointer none, .int .i64 i] 33 (slotsOf [.pointer none, .int .i64 i] 0) (Nat.le_of_ble_eq_true rfl) (fun i v h => by have h2 := (get_slotsOf _ 0 i v h).2; simpa only [List.getElem?_toArray, Nat.sub_zero] using h2)
 have hH := Hp.nil (fun _ => False) w0
 rw [Tryd.ntmps19]
 revert hF; generalize (⟨(#[.pointer none, .int .i64 i] : Array Value) ++ Array.replicate (33 - (#[.pointer none, .int .i64 i] : Array Value).size) undef, []⟩ : Act) = a; intro hF
 refine wp_seq_k fun khK1 hK1 => ?_
 refine wp_region_lit ?_
 refine wpList_plain rfl fun K hK => ?_
 refine w_alloc 4 hF hH rfl ty30 ?_
 clear hF hH; intro a w b4 hF hH
 refine hK _ _ ?_; clear hK K
 refine l_at hF rfl rfl rfl (x_assign rfl) ?_; clear hF; intro a hF
 refine wpList_nil ?_
 refine hK1 _ _ ?_
 refine wp_seq_k fun khK2 hK2 => ?_
 refine wp_seq_k fun khK3 hK3 => ?_
 refine wp_region_lit ?_
 refine l_at hF rfl rfl rfl (x_move (hF.tmp 0 rfl)) ?_; clear hF; intro a hF
 refine l_at hF rfl rfl rfl (x_ptrnil Tryd.underlying23 (hF.tmp 6 rfl) rfl) ?_; clear hF; intro a hF
 refine l_at hF rfl rfl rfl (x_move (hF.tmp 7 rfl)) ?_; clear hF; intro a hF
 refine l_offg hF ((wanted_of hF rfl rfl rfl rfl).trans rfl) rfl rfl ?_; clear hF; intro a hF
 refine l_offg hF ((wanted_of hF rfl rfl rfl rfl).trans rfl) rfl rfl ?_; clear hF; intro a hF
 refine l_at hF rfl rfl rfl (x_pickT (hF.tmp 8 rfl) rfl rfl) ?_; clear hF; intro a hF
 refine l_at hF rfl rfl rfl (x_move (hF.tmp 11 rfl)) ?_; clear hF; intro a hF
 refine l_offg hF ((wanted_of hF rfl rfl rfl rfl).trans rfl) rfl rfl ?_; clear hF; intro a hF
 refine l_offg hF ((wanted_of hF rfl rfl rfl rfl).trans rfl) rfl rfl ?_; clear hF; intro a hF
 refine l_offg hF ((wanted_of hF rfl rfl rfl rfl).trans rfl) rfl rfl ?_; clear hF; intro a hF
 refine l_offg hF ((wanted_of hF rfl rfl rfl rfl).trans rfl) rfl rfl ?_; clear hF; intro a hF
 refine l_offg hF ((wanted_of hF rfl rfl rfl rfl).trans rfl) rfl rfl ?_; clear hF; intro a hF
 refine l_offg hF ((wanted_of hF rfl rfl rfl rfl).trans rfl) rfl rfl ?_; clear hF; intro a hF
 refine l_offg hF ((wanted_of hF rfl rfl rfl rfl).trans rfl) rfl rfl ?_; clear hF; intro a hF
 refine l_at hF rfl rfl rfl (x_pickT (hF.tmp 12 rfl) rfl rfl) ?_; clear hF; intro a hF
 refine wpList_nil ?_
 refine hK3 _ _ ?_
 refine wp_cond_true (hF.tmp 20 rfl) ?_
 refine wp_seq_k fun khK4 hK4 => ?_
 refine wp_region_lit ?_
 refine l_at hF rfl rfl rfl (x_buildS (cells := #[.int .i64 0, .int .i64 0, .int .i64 0, .int .i64 0, .slice none 0 0, .slice none 0 0]) (places := #[(0, 1), (1, 1), (2, 1), (3, 1), (4, 1), (5, 1)]) Tryd.underlying30 ty30 (by kernel_rfl) Array.map_empty rfl) ?_; clear hF; intro a hF
 refine wpList_plain rfl fun K hK => ?_
 refine w_storeA 4 hH ty30 rfl (hF.tmp 4 rfl) (hF.tmp 21 rfl) rfl (by simp [Value.cells, Value.oneCell']) rfl ?_
 clear hH; intro w hH
 refine hK _ _ ?_; clear hK K
 refine l_at hF rfl rfl rfl (x_assign rfl) ?_; clear hF; intro a hF
 refine wpList_nil ?_
 refine hK4 _ _ ?_
 refine wp_ret ?_
 try simp only [Exit.then, Exit.inBlock]
 exact fin_ret hF (resct hF rfl rfl rfl (hH.at 4 rfl) ty30 rfl) ⟨rfl, hH.mods⟩
set_option maxRecDepth 100000 in
set_option maxHeartbeats 1000000 in
theorem take_nil (w0 : World) (i : Int) : Calls Tryd.prog 12 #[.pointer none, .int .i64 i] w0 fun e w' => e = .returned (.tuple #[.agg #[.int .i64 0, .int .i64 0, .int .i64 0, .int .i64 0, .slice none 0 0, .slice none 0 0], .bool false, .int .i64 1]) ∧ Mods (fun _ => False) w0 w' := by
 refine calls_of_wp Tryd.func12 rfl ?_
 have hF := Fr.enter #[.pointer none, .int .i64 i] 49 (slotsOf [.pointer none, .int .i64 i] 0) (Nat.le_of_ble_eq_true rfl) (fun i v h => by have h2 := (get_slotsOf _ 0 i v h).2; simpa only [List.getElem?_toArray, Nat.sub_zero] using h2)
 have hH := Hp.nil (fun _ => False) w0
 rw [Tryd.ntmps12]
 revert hF; generalize (⟨(#[.pointer none, .int .i64 i] : Array Value) ++ Array.replicate (49 - (#[.pointer none, .int .i64 i] : Array Value).size) undef, []⟩ : Act) = a; intro hF
 refine wp_seq_k fun khK1 hK1 => ?_
 refine wp_region_lit ?_
 refine wpList_plain rfl fun K hK => ?_
 refine w_alloc 4 hF hH rfl ty30 ?_
 clear hF hH; intro a w b4 hF hH
 refine hK _ _ ?_; clear hK K
 refine l_at hF rfl rfl rfl (x_assign rfl) ?_; clear hF; intro a hF
 refine l_at hF rfl rfl rfl (x_assign rfl) ?_; clear hF; intro a hF
 refine wpList_nil ?_
 refine hK1 _ _ ?_
 refine wp_seq_k fun khK2 hK2 => ?_
 refine wp_region_lit ?_
 refine l_at hF rfl rfl rfl (x_move (hF.tmp 0 rfl)) ?_; clear hF; intro a hF
 refine l_at hF rfl rfl rfl (x_move (hF.tmp 1 rfl)) ?_; clear hF; intro a hF
 refine wpList_plain rfl fun K hK => ?_
 refine w_call hF (x_enter Tryd.func19 (by kernel_rfl) rfl (by simp only [List.map_toArray, List.map_cons, List.map_nil, hF.tmp 11 rfl, hF.tmp 12 rfl] <;> rfl)) (look_nil _ i) rfl rfl ?_
 rintro _ w ⟨rfl, hm_⟩; refine ⟨_, rfl, ?_⟩; clear hF; intro a hF; have hH := hH.same hm_
 refine hK _ _ ?_; clear hK K
 refine l_at hF rfl rfl rfl (x_move (hF.tmp 13 rfl)) ?_; clear hF; intro a hF
 refine l_at hF rfl rfl rfl (x_extract (hF.tmp 10 rfl) rfl) ?_; clear hF; intro a hF
 refine l_at hF rfl rfl rfl (x_extract (hF.tmp 10 rfl) rfl) ?_; clear hF; intro a hF
 refine wpList_plain rfl fun K hK => ?_
 refine w_alloc 7 hF hH rfl ty30 ?_
 clear hF hH; intro a w b7 hF hH
 refine hK _ _ ?_; clear hK K
 refine wpList_plain rfl fun K hK => ?_
 refine w_storeA 7 hH ty30 rfl (hF.tmp 7 rfl) (hF.tmp 14 rfl) rfl (by simp [Value.cells, Value.oneCell']) rfl ?_
 clear hH; intro w hH
 refine hK _ _ ?_; clear hK K
 refine l_at hF rfl rfl rfl (x_assign (hF.tmp 15 rfl)) ?_; clear hF; intro a hF
 refine wpList_nil ?_
 refine hK2 _ _ ?_
 refine wp_seq_k fun khK3 hK3 => ?_
 refine wp_seq_k fun khK4 hK4 => ?_
 refine wp_region_lit ?_
 refine l_at hF rfl rfl rfl (x_move (hF.tmp 8 rfl)) ?_; clear hF; intro a hF
 refine l_at hF rfl rfl rfl (x_neq (hF.tmp 16 rfl) rfl) ?_; clear hF; intro a hF
 refine wpList_nil ?_
 refine hK4 _ _ ?_
 refine wp_cond_true (hF.tmp 17 rfl) ?_
 refine wp_seq_k fun khK5 hK5 => ?_
 refine wp_region_lit ?_
 refine l_at hF rfl rfl rfl (x_loadn ty30 (hF.tmp 7 rfl) rfl (blk_whole (hH.at 7 rfl))) ?_; clear hF; intro a hF
 refine l_at hF rfl rfl rfl (x_move (hF.tmp 8 rfl)) ?_; clear hF; intro a hF
 refine wpList_plain rfl fun K hK => ?_
 refine w_storeA 4 hH ty30 rfl (hF.tmp 4 rfl) (hF.tmp 18 rfl) rfl (by simp [Value.cells, Value.oneCell']) rfl ?_
 clear hH; intro w hH
 refine hK _ _ ?_; clear hK K
 refine l_at hF rfl rfl rfl (x_assign rfl) ?_; clear hF; intro a hF
 refine l_at hF rfl rfl rfl (x_assign (hF.tmp 19 rfl)) ?_; clear hF; intro a hF
 refine wpList_nil ?_
 refine hK5 _ _ ?_
 refine wp_ret ?_
 try simp only [Exit.then, Exit.inBlock]
 exact fin_ret hF (resct3 hF rfl rfl rfl rfl (hH.at 4 rfl) ty30 rfl) ⟨rfl, hH.mods⟩
set_option maxRecDepth 100000 in
set_option maxHeartbeats 1000000 in
theorem twice_nil (w0 : World) (i : Int) : Calls Tryd.prog 16 #[.pointer none, .int .i64 i] w0 fun e w' => e = .returned (.int .i64 1) ∧ Mods (fun _ => False) w0 w' := by
 refine calls_of_wp Tryd.func16 rfl ?_
 have hF := Fr.enter #[.pointer none, .int .i64 i] 25 (slotsOf [.pointer none, .int .i64 i] 0) (Nat.le_of_ble_eq_true rfl) (fun i v h => by have h2 := (get_slotsOf _ 0 i v h).2; simpa only [List.getElem?_toArray, Nat.sub_zero] using h2)
 have hH := Hp.nil (fun _ => False) w0
 rw [Tryd.ntmps16]
 revert hF; generalize (⟨(#[.pointer none, .int .i64 i] : Array Value) ++ Array.replicate (25 - (#[.pointer none, .int .i64 i] : Array Value).size) undef, []⟩ : Act) = a; intro hF
 refine wp_seq_k fun khK1 hK1 => ?_
 refine wp_region_lit ?_
 refine l_at hF rfl rfl rfl (x_assign rfl) ?_; clear hF; intro a hF
 refine wpList_nil ?_
 refine hK1 _ _ ?_
 refine wp_seq_k fun khK2 hK2 => ?_
 refine wp_seq_k fun khK3 hK3 => ?_
 refine wp_region_lit ?_
 refine l_at hF rfl rfl rfl (x_move (hF.tmp 0 rfl)) ?_; clear hF; intro a hF
 refine l_at hF rfl rfl rfl (x_move (hF.tmp 1 rfl)) ?_; clear hF; intro a hF
 refine wpList_plain rfl fun K hK => ?_
 refine w_call hF (x_enter Tryd.func19 (by kernel_rfl) rfl (by simp only [List.map_toArray, List.map_cons, List.map_nil, hF.tmp 8 rfl, hF.tmp 9 rfl] <;> rfl)) (look_nil _ i) rfl rfl ?_
 rintro _ w ⟨rfl, hm_⟩; refine ⟨_, rfl, ?_⟩; clear hF; intro a hF; have hH := hH.same hm_
 refine hK _ _ ?_; clear hK K
 refine l_at hF rfl rfl rfl (x_move (hF.tmp 10 rfl)) ?_; clear hF; intro a hF
 refine l_at hF rfl rfl rfl (x_extract (hF.tmp 7 rfl) rfl) ?_; clear hF; intro a hF
 refine l_at hF rfl rfl rfl (x_extract (hF.tmp 7 rfl) rfl) ?_; clear hF; intro a hF
 refine wpList_plain rfl fun K hK => ?_
 refine w_alloc 5 hF hH rfl ty30 ?_
 clear hF hH; intro a w b5 hF hH
 refine hK _ _ ?_; clear hK K
 refine wpList_plain rfl fun K hK => ?_
 refine w_storeA 5 hH ty30 rfl (hF.tmp 5 rfl) (hF.tmp 11 rfl) rfl (by simp [Value.cells, Value.oneCell']) rfl ?_
 clear hH; intro w hH
 refine hK _ _ ?_; clear hK K
 refine l_at hF rfl rfl rfl (x_assign (hF.tmp 12 rfl)) ?_; clear hF; intro a hF
 refine wpList_nil ?_
 refine hK3 _ _ ?_
 refine wp_seq_k fun khK4 hK4 => ?_
 refine wp_region_lit ?_
 refine l_at hF rfl rfl rfl (x_move (hF.tmp 6 rfl)) ?_; clear hF; intro a hF
 refine l_at hF rfl rfl rfl (x_neq (hF.tmp 13 rfl) rfl) ?_; clear hF; intro a hF
 refine wpList_nil ?_
 refine hK4 _ _ ?_
 refine wp_cond_true (hF.tmp 14 rfl) ?_
 refine wp_seq_k fun khK5 hK5 => ?_
 refine wp_region_lit ?_
 refine l_at hF rfl rfl rfl (x_move (hF.tmp 6 rfl)) ?_; clear hF; intro a hF
 refine l_at hF rfl rfl rfl (x_assign (hF.tmp 15 rfl)) ?_; clear hF; intro a hF
 refine wpList_nil ?_
 refine hK5 _ _ ?_
 refine wp_ret ?_
 try simp only [Exit.then, Exit.inBlock]
 exact fin_ret hF (res1 hF rfl rfl) ⟨rfl, hH.mods⟩
set_option maxRecDepth 100000 in
set_option maxHeartbeats 1000000 in
theorem lose_nil (w0 : World) (i : Int) : Calls Tryd.prog 18 #[.pointer none, .int .i64 i] w0 fun e w' => e = .returned (.int .i64 1) ∧ Mods (fun _ => False) w0 w' := by
 refine calls_of_wp Tryd.func18 rfl ?_
 have hF := Fr.enter #[.pointer none, .int .i64 i] 25 (slotsOf [.pointer none, .int .i64 i] 0) (Nat.le_of_ble_eq_true rfl) (fun i v h => by have h2 := (get_slotsOf _ 0 i v h).2; simpa only [List.getElem?_toArray, Nat.sub_zero] using h2)
 have hH := Hp.nil (fun _ => False) w0
 rw [Tryd.ntmps18]
 revert hF; generalize (⟨(#[.pointer none, .int .i64 i] : Array Value) ++ Array.replicate (25 - (#[.pointer none, .int .i64 i] : Array Value).size) undef, []⟩ : Act) = a; intro hF
 refine wp_seq_k fun khK1 hK1 => ?_
 refine wp_region_lit ?_
 refine l_at hF rfl rfl rfl (x_assign rfl) ?_; clear hF; intro a hF
 refine wpList_nil ?_
 refine hK1 _ _ ?_
 refine wp_seq_k fun khK2 hK2 => ?_
 refine wp_region_lit ?_
 refine l_at hF rfl rfl rfl (x_move (hF.tmp 0 rfl)) ?_; clear hF; intro a hF
 refine l_at hF rfl rfl rfl (x_move (hF.tmp 1 rfl)) ?_; clear hF; intro a hF
 refine wpList_plain rfl fun K hK => ?_
 refine w_call hF (x_enter Tryd.func12 (by kernel_rfl) rfl (by simp only [List.map_toArray, List.map_cons, List.map_nil, hF.tmp 9 rfl, hF.tmp 10 rfl] <;> rfl)) (take_nil _ i) rfl rfl ?_
 rintro _ w ⟨rfl, hm_⟩; refine ⟨_, rfl, ?_⟩; clear hF; intro a hF; have hH := hH.same hm_
 refine hK _ _ ?_; clear hK K
 refine l_at hF rfl rfl rfl (x_move (hF.tmp 11 rfl)) ?_; clear hF; intro a hF
 refine l_at hF rfl rfl rfl (x_extract (hF.tmp 8 rfl) rfl) ?_; clear hF; intro a hF
 refine l_at hF rfl rfl rfl (x_extract (hF.tmp 8 rfl) rfl) ?_; clear hF; intro a hF
 refine l_at hF rfl rfl rfl (x_extract (hF.tmp 8 rfl) rfl) ?_; clear hF; intro a hF
 refine wpList_plain rfl fun K hK => ?_
 refine w_alloc 5 hF hH rfl ty30 ?_
 clear hF hH; intro a w b5 hF hH
 refine hK _ _ ?_; clear hK K
 refine wpList_plain rfl fun K hK => ?_
 refine w_storeA 5 hH ty30 rfl (hF.tmp 5 rfl) (hF.tmp 12 rfl) rfl (by simp [Value.cells, Value.oneCell']) rfl ?_
 clear hH; intro w hH
 refine hK _ _ ?_; clear hK K
 refine l_at hF rfl rfl rfl (x_assign (hF.tmp 13 rfl)) ?_; clear hF; intro a hF
 refine l_at hF rfl rfl rfl (x_assign (hF.tmp 14 rfl)) ?_; clear hF; intro a hF
 refine wpList_nil ?_
 refine hK2 _ _ ?_
 refine wp_seq_k fun khK3 hK3 => ?_
 refine wp_seq_k fun khK4 hK4 => ?_
 refine wp_region_lit ?_
 refine l_at hF rfl rfl rfl (x_move (hF.tmp 7 rfl)) ?_; clear hF; intro a hF
 refine l_at hF rfl rfl rfl (x_eql (hF.tmp 15 rfl) rfl) ?_; clear hF; intro a hF
 refine wpList_nil ?_
 refine hK4 _ _ ?_
 refine wp_cond_false (hF.tmp 16 rfl) ?_
 refine wp_skip ?_
 refine hK3 _ _ ?_
 refine wp_seq_k fun khK5 hK5 => ?_
 refine wp_region_lit ?_
 refine l_at hF rfl rfl rfl (x_move (hF.tmp 7 rfl)) ?_; clear hF; intro a hF
 refine l_at hF rfl rfl rfl (x_assign (hF.tmp 24 rfl)) ?_; clear hF; intro a hF
 refine wpList_nil ?_
 refine hK5 _ _ ?_
 refine wp_ret ?_
 try simp only [Exit.then, Exit.inBlock]
 exact fin_ret hF (res1 hF rfl rfl) ⟨rfl, hH.mods⟩
set_option maxRecDepth 100000 in
set_option maxHeartbeats 1000000 in
theorem restart_nil (w0 : World) (i : Int) : Calls Tryd.prog 10 #[.pointer none, .int .i64 i] w0 fun e w' => e = .returned (.int .i64 1) ∧ Mods (fun _ => False) w0 w' := by
 refine calls_of_wp Tryd.func10 rfl ?_
 have hF := Fr.enter #[.pointer none, .int .i64 i] 25 (slotsOf [.pointer none, .int .i64 i] 0) (Nat.le_of_ble_eq_true rfl) (fun i v h => by have h2 := (get_slotsOf _ 0 i v h).2; simpa only [List.getElem?_toArray, Nat.sub_zero] using h2)
 have hH := Hp.nil (fun _ => False) w0
 rw [Tryd.ntmps10]
 revert hF; generalize (⟨(#[.pointer none, .int .i64 i] : Array Value) ++ Array.replicate (25 - (#[.pointer none, .int .i64 i] : Array Value).size) undef, []⟩ : Act) = a; intro hF
 refine wp_seq_k fun khK1 hK1 => ?_
 refine wp_region_lit ?_
 refine l_at hF rfl rfl rfl (x_assign rfl) ?_; clear hF; intro a hF
 refine wpList_nil ?_
 refine hK1 _ _ ?_
 refine wp_seq_k fun khK2 hK2 => ?_
 refine wp_seq_k fun khK3 hK3 => ?_
 refine wp_region_lit ?_
 refine l_at hF rfl rfl rfl (x_move (hF.tmp 0 rfl)) ?_; clear hF; intro a hF
 refine l_at hF rfl rfl rfl (x_ptrnil Tryd.underlying23 (hF.tmp 5 rfl) rfl) ?_; clear hF; intro a hF
 refine l_at hF rfl rfl rfl (x_move (hF.tmp 6 rfl)) ?_; clear hF; intro a hF
 refine l_offg hF ((wanted_of hF rfl rfl rfl rfl).trans rfl) rfl rfl ?_; clear hF; intro a hF
 refine l_offg hF ((wanted_of hF rfl rfl rfl rfl).trans rfl) rfl rfl ?_; clear hF; intro a hF
 refine l_at hF rfl rfl rfl (x_pickT (hF.tmp 7 rfl) rfl rfl) ?_; clear hF; intro a hF
 refine l_at hF rfl rfl rfl (x_move (hF.tmp 10 rfl)) ?_; clear hF; intro a hF
 refine l_offg hF ((wanted_of hF rfl rfl rfl rfl).trans rfl) rfl rfl ?_; clear hF; intro a hF
 refine l_offg hF ((wanted_of hF rfl rfl rfl rfl).trans rfl) rfl rfl ?_; clear hF; intro a hF
 refine l_at hF rfl rfl rfl (x_pickT (hF.tmp 11 rfl) rfl rfl) ?_; clear hF; intro a hF
 refine wpList_nil ?_
 refine hK3 _ _ ?_
 refine wp_cond_true (hF.tmp 14 rfl) ?_
 refine wp_seq_k fun khK4 hK4 => ?_
 refine wp_region_lit ?_
 refine l_at hF rfl rfl rfl (x_assign rfl) ?_; clear hF; intro a hF
 refine wpList_nil ?_
 refine hK4 _ _ ?_
 refine wp_ret ?_
 try simp only [Exit.then, Exit.inBlock]
 exact fin_ret hF (res1 hF rfl rfl) ⟨rfl, hH.mods⟩
set_option maxRecDepth 100000 in
set_option maxHeartbeats 1000000 in
theorem len_nil (w0 : World) (i : Int) : Calls Tryd.prog 11 #[.pointer none] w0 fun e w' => e = .returned (.int .i64 0) ∧ Mods (fun _ => False) w0 w' := by
 refine calls_of_wp Tryd.func11 rfl ?_
 have hF := Fr.enter #[.pointer none] 10 (slotsOf [.pointer none] 0) (Nat.le_of_ble_eq_true rfl) (fun i v h => by have h2 := (get_slotsOf _ 0 i v h).2; simpa only [List.getElem?_toArray, Nat.sub_zero] using h2)
 have hH := Hp.nil (fun _ => False) w0
 rw [Tryd.ntmps11]
 revert hF; generalize (⟨(#[.pointer none] : Array Value) ++ Array.replicate (10 - (#[.pointer none] : Array Value).size) undef, []⟩ : Act) = a; intro hF
 refine wp_seq_k fun khK1 hK1 => ?_
 refine wp_region_lit ?_
 refine l_at hF rfl rfl rfl (x_assign rfl) ?_; clear hF; intro a hF
 refine wpList_nil ?_
 refine hK1 _ _ ?_
 refine wp_seq_k fun khK2 hK2 => ?_
 refine wp_seq_k fun khK3 hK3 => ?_
 refine wp_region_lit ?_
 refine l_at hF rfl rfl rfl (x_move (hF.tmp 0 rfl)) ?_; clear hF; intro a hF
 refine l_at hF rfl rfl rfl (x_ptrnil Tryd.underlying23 (hF.tmp 3 rfl) rfl) ?_; clear hF; intro a hF
 refine wpList_nil ?_
 refine hK3 _ _ ?_
 refine wp_cond_true (hF.tmp 4 rfl) ?_
 refine wp_seq_k fun khK4 hK4 => ?_
 refine wp_region_lit ?_
 refine l_at hF rfl rfl rfl (x_assign rfl) ?_; clear hF; intro a hF
 refine wpList_nil ?_
 refine hK4 _ _ ?_
 refine wp_ret ?_
 try simp only [Exit.then, Exit.inBlock]
 exact fin_ret hF (res1 hF rfl rfl) ⟨rfl, hH.mods⟩
set_option maxRecDepth 100000 in
set_option maxHeartbeats 1000000 in
theorem lost_nil (w0 : World) (i : Int) : Calls Tryd.prog 15 #[.pointer none] w0 fun e w' => e = .returned (.int .i64 0) ∧ Mods (fun _ => False) w0 w' := by
 refine calls_of_wp Tryd.func15 rfl ?_
 have hF := Fr.enter #[.pointer none] 9 (slotsOf [.pointer none] 0) (Nat.le_of_ble_eq_true rfl) (fun i v h => by have h2 := (get_slotsOf _ 0 i v h).2; simpa only [List.getElem?_toArray, Nat.sub_zero] using h2)
 have hH := Hp.nil (fun _ => False) w0
 rw [Tryd.ntmps15]
 revert hF; generalize (⟨(#[.pointer none] : Array Value) ++ Array.replicate (9 - (#[.pointer none] : Array Value).size) undef, []⟩ : Act) = a; intro hF
 refine wp_seq_k fun khK1 hK1 => ?_
 refine wp_region_lit ?_
 refine l_at hF rfl rfl rfl (x_assign rfl) ?_; clear hF; intro a hF
 refine wpList_nil ?_
 refine hK1 _ _ ?_
 refine wp_seq_k fun khK2 hK2 => ?_
 refine wp_seq_k fun khK3 hK3 => ?_
 refine wp_region_lit ?_
 refine l_at hF rfl rfl rfl (x_move (hF.tmp 0 rfl)) ?_; clear hF; intro a hF
 refine l_at hF rfl rfl rfl (x_ptrnil Tryd.underlying23 (hF.tmp 3 rfl) rfl) ?_; clear hF; intro a hF
 refine wpList_nil ?_
 refine hK3 _ _ ?_
 refine wp_cond_true (hF.tmp 4 rfl) ?_
 refine wp_seq_k fun khK4 hK4 => ?_
 refine wp_region_lit ?_
 refine l_at hF rfl rfl rfl (x_assign rfl) ?_; clear hF; intro a hF
 refine wpList_nil ?_
 refine hK4 _ _ ?_
 refine wp_ret ?_
 try simp only [Exit.then, Exit.inBlock]
 exact fin_ret hF (res1 hF rfl rfl) ⟨rfl, hH.mods⟩
set_option maxRecDepth 100000 in
set_option maxHeartbeats 1000000 in
theorem epoch_nil (w0 : World) (i : Int) : Calls Tryd.prog 17 #[.pointer none, .int .i64 i] w0 fun e w' => e = .returned (.int .i64 0) ∧ Mods (fun _ => False) w0 w' := by
 refine calls_of_wp Tryd.func17 rfl ?_
 have hF := Fr.enter #[.pointer none, .int .i64 i] 21 (slotsOf [.pointer none, .int .i64 i] 0) (Nat.le_of_ble_eq_true rfl) (fun i v h => by have h2 := (get_slotsOf _ 0 i v h).2; simpa only [List.getElem?_toArray, Nat.sub_zero] using h2)
 have hH := Hp.nil (fun _ => False) w0
 rw [Tryd.ntmps17]
 revert hF; generalize (⟨(#[.pointer none, .int .i64 i] : Array Value) ++ Array.replicate (21 - (#[.pointer none, .int .i64 i] : Array Value).size) undef, []⟩ : Act) = a; intro hF
 refine wp_seq_k fun khK1 hK1 => ?_
 refine wp_region_lit ?_
 refine l_at hF rfl rfl rfl (x_assign rfl) ?_; clear hF; intro a hF
 refine wpList_nil ?_
 refine hK1 _ _ ?_
 refine wp_seq_k fun khK2 hK2 => ?_
 refine wp_seq_k fun khK3 hK3 => ?_
 refine wp_region_lit ?_
 refine l_at hF rfl rfl rfl (x_move (hF.tmp 0 rfl)) ?_; clear hF; intro a hF
 refine l_at hF rfl rfl rfl (x_ptrnil Tryd.underlying23 (hF.tmp 5 rfl) rfl) ?_; clear hF; intro a hF
 refine l_at hF rfl rfl rfl (x_move (hF.tmp 6 rfl)) ?_; clear hF; intro a hF
 refine l_offg hF ((wanted_of hF rfl rfl rfl rfl).trans rfl) rfl rfl ?_; clear hF; intro a hF
 refine l_offg hF ((wanted_of hF rfl rfl rfl rfl).trans rfl) rfl rfl ?_; clear hF; intro a hF
 refine l_at hF rfl rfl rfl (x_pickT (hF.tmp 7 rfl) rfl rfl) ?_; clear hF; intro a hF
 refine l_at hF rfl rfl rfl (x_move (hF.tmp 10 rfl)) ?_; clear hF; intro a hF
 refine l_offg hF ((wanted_of hF rfl rfl rfl rfl).trans rfl) rfl rfl ?_; clear hF; intro a hF
 refine l_offg hF ((wanted_of hF rfl rfl rfl rfl).trans rfl) rfl rfl ?_; clear hF; intro a hF
 refine l_at hF rfl rfl rfl (x_pickT (hF.tmp 11 rfl) rfl rfl) ?_; clear hF; intro a hF
 refine wpList_nil ?_
 refine hK3 _ _ ?_
 refine wp_cond_true (hF.tmp 14 rfl) ?_
 refine wp_seq_k fun khK4 hK4 => ?_
 refine wp_region_lit ?_
 refine l_at hF rfl rfl rfl (x_assign rfl) ?_; clear hF; intro a hF
 refine wpList_nil ?_
 refine hK4 _ _ ?_
 refine wp_ret ?_
 try simp only [Exit.then, Exit.inBlock]
 exact fin_ret hF (res1 hF rfl rfl) ⟨rfl, hH.mods⟩
set_option maxRecDepth 100000 in
set_option maxHeartbeats 1000000 in
theorem send_nil (w0 : World) {m : MessageD} {okm0 : Nat → Prop} {Am0 : Option Addr} {cm0 : Nat} (hrm0 : Rd (Rep.int .i64) w0 okm0 Am0 m.nodes cm0) {okm1 : Nat → Prop} {Am1 : Option Addr} {cm1 : Nat} (hrm1 : Rd ChgE w0 okm1 Am1 m.changes cm1) : Calls Tryd.prog 9 #[.pointer none, .agg #[.int .i64 m.kind, .int .i64 m.src, .int .i64 m.dst, .int .i64 m.tx, .slice Am0 m.nodes.length cm0, .slice Am1 m.changes.length cm1]] w0 fun e w' => e = .returned (.int .i64 1) ∧ Mods (fun _ => False) w0 w' := by
 refine calls_of_wp Tryd.func9 rfl ?_
 have hF := Fr.enter #[.pointer none, .agg #[.int .i64 m.kind, .int .i64 m.src, .int .i64 m.dst, .int .i64 m.tx, .slice Am0 m.nodes.length cm0, .slice Am1 m.changes.length cm1]] 28 (slotsOf [.pointer none, .agg #[.int .i64 m.kind, .int .i64 m.src, .int .i64 m.dst, .int .i64 m.tx, .slice Am0 m.nodes.length cm0, .slice Am1 m.changes.length cm1]] 0) (Nat.le_of_ble_eq_true rfl) (fun i v h => by have h2 := (get_slotsOf _ 0 i v h).2; simpa only [List.getElem?_toArray, Nat.sub_zero] using h2)
 have hH := Hp.nil (fun _ => False) w0
 rw [Tryd.ntmps9]
 revert hF; generalize (⟨(#[.pointer none, .agg #[.int .i64 m.kind, .int .i64 m.src, .int .i64 m.dst, .int .i64 m.tx, .slice Am0 m.nodes.length cm0, .slice Am1 m.changes.length cm1]] : Array Value) ++ Array.replicate (28 - (#[.pointer none, .agg #[.int .i64 m.kind, .int .i64 m.src, .int .i64 m.dst, .int .i64 m.tx, .slice Am0 m.nodes.length cm0, .slice Am1 m.changes.length cm1]] : Array Value).size) undef, []⟩ : Act) = a; intro hF
 have hH := hH.arg 910 hrm0.all (fun _ h => ⟨h, fun h => h⟩)
 have hlem0 := hrm0.le; unfold maxLen at hlem0
 have hH := hH.arg 911 hrm1.all (fun _ h => ⟨h, fun h => h⟩)
 have hlem1 := hrm1.le; unfold maxLen at hlem1
 refine wp_seq_k fun khK1 hK1 => ?_
 refine wp_region_lit ?_
 refine wpList_plain rfl fun K hK => ?_
 refine w_box 3 hF hH rfl (hF.tmp 1 rfl) ?_
 clear hF hH; intro a w b3 hF hH
 refine hK _ _ ?_; clear hK K
 refine l_at hF rfl rfl rfl (x_assign rfl) ?_; clear hF; intro a hF
 refine wpList_nil ?_
 refine hK1 _ _ ?_
 refine wp_seq_k fun khK2 hK2 => ?_
 refine wp_seq_k fun khK3 hK3 => ?_
 refine wp_region_lit ?_
 refine l_at hF rfl rfl rfl (x_move (hF.tmp 0 rfl)) ?_; clear hF; intro a hF
 refine l_at hF rfl rfl rfl (x_ptrnil Tryd.underlying23 (hF.tmp 7 rfl) rfl) ?_; clear hF; intro a hF
 refine wpList_nil ?_
 refine hK3 _ _ ?_
 refine wp_cond_true (hF.tmp 8 rfl) ?_
 refine wp_seq_k fun khK4 hK4 => ?_
 refine wp_region_lit ?_
 refine l_at hF rfl rfl rfl (x_assign rfl) ?_; clear hF; intro a hF
 refine wpList_nil ?_
 refine hK4 _ _ ?_
 refine wp_ret ?_
 try simp only [Exit.then, Exit.inBlock]
 exact fin_ret hF (res1 hF rfl rfl) ⟨rfl, hH.mods⟩
set_option maxRecDepth 100000 in
set_option maxHeartbeats 1000000 in
theorem bNil_calls (w0 : World) (hL : LibAt true w0) {m : MessageD} {okm0 : Nat → Prop} {Am0 : Option Addr} {cm0 : Nat} (hrm0 : Rd (Rep.int .i64) w0 okm0 Am0 m.nodes cm0) {okm1 : Nat → Prop} {Am1 : Option Addr} {cm1 : Nat} (hrm1 : Rd ChgE w0 okm1 Am1 m.changes cm1) (i : Int) : Calls Tryd.prog 6 #[.agg #[.int .i64 m.kind, .int .i64 m.src, .int .i64 m.dst, .int .i64 m.tx, .slice Am0 m.nodes.length cm0, .slice Am1 m.changes.length cm1], .int .i64 i] w0 fun e w' => e = .returned (.bool true) ∧ Mods (fun _ => False) w0 w' := by
 refine calls_of_wp Tryd.func6 rfl ?_
 have hF := Fr.enter #[.agg #[.int .i64 m.kind, .int .i64 m.src, .int .i64 m.dst, .int .i64 m.tx, .slice Am0 m.nodes.length cm0, .slice Am1 m.changes.length cm1], .int .i64 i] 83 (slotsOf [.agg #[.int .i64 m.kind, .int .i64 m.src, .int .i64 m.dst, .int .i64 m.tx, .slice Am0 m.nodes.length cm0, .slice Am1 m.changes.length cm1], .int .i64 i] 0) (Nat.le_of_ble_eq_true rfl) (fun i v h => by have h2 := (get_slotsOf _ 0 i v h).2; simpa only [List.getElem?_toArray, Nat.sub_zero] using h2)
 have hH := Hp.nil (fun _ => False) w0
 rw [Tryd.ntmps6]
 revert hF; generalize (⟨(#[.agg #[.int .i64 m.kind, .int .i64 m.src, .int .i64 m.dst, .int .i64 m.tx, .slice Am0 m.nodes.length cm0, .slice Am1 m.changes.length cm1], .int .i64 i] : Array Value) ++ Array.replicate (83 - (#[.agg #[.int .i64 m.kind, .int .i64 m.src, .int .i64 m.dst, .int .i64 m.tx, .slice Am0 m.nodes.length cm0, .slice Am1 m.changes.length cm1], .int .i64 i] : Array Value).size) undef, []⟩ : Act) = a; intro hF
 have hH := hH.arg 910 hrm0.all (fun _ h => ⟨h, fun h => h⟩)
 have hlem0 := hrm0.le; unfold maxLen at hlem0
 have hH := hH.arg 911 hrm1.all (fun _ h => ⟨h, fun h => h⟩)
 have hlem1 := hrm1.le; unfold maxLen at hlem1
 have hH := hH.libN 990 hL
 refine wp_seq_k fun khK1 hK1 => ?_
 refine wp_region_lit ?_
 refine wpList_plain rfl fun K hK => ?_
 refine w_box 2 hF hH rfl (hF.tmp 0 rfl) ?_
 clear hF hH; intro a w b2 hF hH
 refine hK _ _ ?_; clear hK K
 refine l_at hF rfl rfl rfl (x_assign rfl) ?_; clear hF; intro a hF
 refine wpList_nil ?_
 refine hK1 _ _ ?_
 refine wp_seq_k fun khK2 hK2 => ?_
 refine wp_region_lit ?_
 refine l_at hF rfl rfl rfl (x_loadn ty30 (hF.tmp 2 rfl) rfl (blk_whole (hH.at 2 rfl))) ?_; clear hF; intro a hF
 refine wpList_plain rfl fun K hK => ?_
 refine w_call hF (x_enter Tryd.func8 (by kernel_rfl) rfl (by simp only [List.map_toArray, List.map_cons, List.map_nil, hF.tmp 12 rfl] <;> rfl)) (fitsM_calls _ ((hH.rd 910 rfl)) ((hH.rd 911 rfl))) rfl rfl ?_
 rintro _ w ⟨bf_, rfl, hm_⟩; refine ⟨_, rfl, ?_⟩; clear hF; intro a hF; have hH := hH.same hm_
 refine hK _ _ ?_; clear hK K
 refine l_at hF rfl rfl rfl (x_assign (hF.tmp 13 rfl)) ?_; clear hF; intro a hF
 refine wpList_nil ?_
 refine hK2 _ _ ?_
 refine wp_seq_k fun khK3 hK3 => ?_
 refine wp_seq_k fun khK4 hK4 => ?_
 refine wp_region_lit ?_
 refine l_at hF rfl rfl rfl (x_move (hF.tmp 5 rfl)) ?_; clear hF; intro a hF
 refine l_at hF rfl rfl rfl (x_not (hF.tmp 14 rfl)) ?_; clear hF; intro a hF
 refine wpList_nil ?_
 refine hK4 _ _ ?_
 refine wp_cond_split (hF.tmp 15 rfl) (fun hc15 => ?_) (fun hc15 => ?_)
 ·have hk15_1 := hc15; try simp only [Bool.or_eq_true, Bool.and_eq_true, Bool.or_eq_false_iff, Bool.and_eq_false_iff, Bool.not_eq_true', Bool.not_eq_false', decide_eq_true_eq, decide_eq_false_iff_not, Bool.not_true, Bool.not_false] at hc15
  refine wp_seq_k fun khK5 hK5 => ?_
  refine wp_region_lit ?_
  refine wpList_plain rfl fun K hK => ?_
  refine w_call hF (x_enter Tryd.func14 (by kernel_rfl) rfl (by simp only [List.map_toArray, List.map_cons, List.map_nil] <;> rfl)) (balive_calls _ (hH.holds 990 _ rfl)) rfl rfl ?_
  rintro _ w ⟨rfl, hm_⟩; refine ⟨_, rfl, ?_⟩; clear hF; intro a hF; have hH := hH.same hm_
  refine hK _ _ ?_; clear hK K
  refine l_at hF rfl rfl rfl (x_assign (hF.tmp 16 rfl)) ?_; clear hF; intro a hF
  refine wpList_nil ?_
  refine hK5 _ _ ?_
  refine wp_ret ?_
  try simp only [Exit.then, Exit.inBlock]
  exact fin_ret hF (res1 (v := .bool true) hF rfl rfl) ⟨rfl, hH.mods⟩
 ·have hk15_2 := hc15; try simp only [Bool.or_eq_true, Bool.and_eq_true, Bool.or_eq_false_iff, Bool.and_eq_false_iff, Bool.not_eq_true', Bool.not_eq_false', decide_eq_true_eq, decide_eq_false_iff_not, Bool.not_true, Bool.not_false] at hc15
  refine wp_skip ?_
  refine hK3 _ _ ?_
  refine wp_seq_k fun khK6 hK6 => ?_
  refine wp_region_lit ?_
  refine l_at hF rfl rfl rfl (x_assign rfl) ?_; clear hF; intro a hF
  refine wpList_nil ?_
  refine hK6 _ _ ?_
  refine wp_seq_k fun khK7 hK7 => ?_
  refine wp_region_lit ?_
  refine l_at hF rfl rfl rfl (x_move (hF.tmp 6 rfl)) ?_; clear hF; intro a hF
  refine l_at hF rfl rfl rfl (x_move (hF.tmp 1 rfl)) ?_; clear hF; intro a hF
  refine wpList_plain rfl fun K hK => ?_
  refine w_call hF (x_enter Tryd.func19 (by kernel_rfl) rfl (by simp only [List.map_toArray, List.map_cons, List.map_nil, hF.tmp 18 rfl, hF.tmp 19 rfl] <;> rfl)) (look_nil _ i) rfl rfl ?_
  rintro _ w ⟨rfl, hm_⟩; refine ⟨_, rfl, ?_⟩; clear hF; intro a hF; have hH := hH.same hm_
  refine hK _ _ ?_; clear hK K
  refine l_at hF rfl rfl rfl (x_move (hF.tmp 20 rfl)) ?_; clear hF; intro a hF
  refine l_at hF rfl rfl rfl (x_extract (hF.tmp 17 rfl) rfl) ?_; clear hF; intro a hF
  refine l_at hF rfl rfl rfl (x_extract (hF.tmp 17 rfl) rfl) ?_; clear hF; intro a hF
  refine wpList_plain rfl fun K hK => ?_
  refine w_alloc 7 hF hH rfl ty30 ?_
  clear hF hH; intro a w b7 hF hH
  refine hK _ _ ?_; clear hK K
  refine wpList_plain rfl fun K hK => ?_
  refine w_storeA 7 hH ty30 rfl (hF.tmp 7 rfl) (hF.tmp 21 rfl) rfl (by simp [Value.cells, Value.oneCell']) rfl ?_
  clear hH; intro w hH
  refine hK _ _ ?_; clear hK K
  refine l_at hF rfl rfl rfl (x_assign (hF.tmp 22 rfl)) ?_; clear hF; intro a hF
  refine wpList_nil ?_
  refine hK7 _ _ ?_
  refine wp_seq_k fun khK8 hK8 => ?_
  refine wp_region_lit ?_
  refine l_at hF rfl rfl rfl (x_move (hF.tmp 6 rfl)) ?_; clear hF; intro a hF
  refine l_at hF rfl rfl rfl (x_move (hF.tmp 1 rfl)) ?_; clear hF; intro a hF
  refine wpList_plain rfl fun K hK => ?_
  refine w_call hF (x_enter Tryd.func12 (by kernel_rfl) rfl (by simp only [List.map_toArray, List.map_cons, List.map_nil, hF.tmp 24 rfl, hF.tmp 25 rfl] <;> rfl)) (take_nil _ i) rfl rfl ?_
  rintro _ w ⟨rfl, hm_⟩; refine ⟨_, rfl, ?_⟩; clear hF; intro a hF; have hH := hH.same hm_
  refine hK _ _ ?_; clear hK K
  refine l_at hF rfl rfl rfl (x_move (hF.tmp 26 rfl)) ?_; clear hF; intro a hF
  refine l_at hF rfl rfl rfl (x_extract (hF.tmp 23 rfl) rfl) ?_; clear hF; intro a hF
  refine l_at hF rfl rfl rfl (x_extract (hF.tmp 23 rfl) rfl) ?_; clear hF; intro a hF
  refine l_at hF rfl rfl rfl (x_extract (hF.tmp 23 rfl) rfl) ?_; clear hF; intro a hF
  refine wpList_plain rfl fun K hK => ?_
  refine w_alloc 9 hF hH rfl ty30 ?_
  clear hF hH; intro a w b9 hF hH
  refine hK _ _ ?_; clear hK K
  refine wpList_plain rfl fun K hK => ?_
  refine w_storeA 9 hH ty30 rfl (hF.tmp 9 rfl) (hF.tmp 27 rfl) rfl (by simp [Value.cells, Value.oneCell']) rfl ?_
  clear hH; intro w hH
  refine hK _ _ ?_; clear hK K
  refine l_at hF rfl rfl rfl (x_assign (hF.tmp 28 rfl)) ?_; clear hF; intro a hF
  refine l_at hF rfl rfl rfl (x_assign (hF.tmp 29 rfl)) ?_; clear hF; intro a hF
  refine wpList_nil ?_
  refine hK8 _ _ ?_
  refine wp_seq_k fun khK9 hK9 => ?_
  refine wp_region_lit ?_
  refine wpList_plain rfl fun K hK => ?_
  refine w_call hF (x_enter Tryd.func14 (by kernel_rfl) rfl (by simp only [List.map_toArray, List.map_cons, List.map_nil] <;> rfl)) (balive_calls _ (hH.holds 990 _ rfl)) rfl rfl ?_
  rintro _ w ⟨rfl, hm_⟩; refine ⟨_, rfl, ?_⟩; clear hF; intro a hF; have hH := hH.same hm_
  refine hK _ _ ?_; clear hK K
  refine l_at hF rfl rfl rfl (x_move (hF.tmp 30 rfl)) ?_; clear hF; intro a hF
  refine l_atg hF ((wanted_of hF rfl rfl rfl rfl).trans rfl) rfl rfl (x_move (hF.tmp 8 rfl)) ?_; clear hF; intro a hF
  refine l_atg hF ((wanted_of hF rfl rfl rfl rfl).trans rfl) rfl rfl (x_eql (hF.tmp 32 rfl) rfl) ?_; clear hF; intro a hF
  refine l_at hF rfl rfl rfl (x_pickT (hF.tmp 31 rfl) rfl (hF.tmp 33 rfl)) ?_; clear hF; intro a hF
  refine l_at hF rfl rfl rfl (x_move (hF.tmp 34 rfl)) ?_; clear hF; intro a hF
  refine l_atg hF ((wanted_of hF rfl rfl rfl rfl).trans rfl) rfl rfl (x_move (hF.tmp 10 rfl)) ?_; clear hF; intro a hF
  refine l_atg hF ((wanted_of hF rfl rfl rfl rfl).trans rfl) rfl rfl (x_not (hF.tmp 36 rfl)) ?_; clear hF; intro a hF
  refine l_at hF rfl rfl rfl (x_pickT (hF.tmp 35 rfl) rfl (hF.tmp 37 rfl)) ?_; clear hF; intro a hF
  refine l_at hF rfl rfl rfl (x_move (hF.tmp 38 rfl)) ?_; clear hF; intro a hF
  refine l_atg hF ((wanted_of hF rfl rfl rfl rfl).trans rfl) rfl rfl (x_move (hF.tmp 11 rfl)) ?_; clear hF; intro a hF
  refine l_atg hF ((wanted_of hF rfl rfl rfl rfl).trans rfl) rfl rfl (x_eql (hF.tmp 40 rfl) rfl) ?_; clear hF; intro a hF
  refine l_at hF rfl rfl rfl (x_pickT (hF.tmp 39 rfl) rfl (hF.tmp 41 rfl)) ?_; clear hF; intro a hF
  refine l_at hF rfl rfl rfl (x_move (hF.tmp 42 rfl)) ?_; clear hF; intro a hF
  refine l_atg hF ((wanted_of hF rfl rfl rfl rfl).trans rfl) rfl rfl (x_move (hF.tmp 6 rfl)) ?_; clear hF; intro a hF
  refine l_atg hF ((wanted_of hF rfl rfl rfl rfl).trans rfl) rfl rfl (x_loadn ty30 (hF.tmp 2 rfl) rfl (blk_whole (hH.at 2 rfl))) ?_; clear hF; intro a hF
  refine wpList_on ((wanted_of hF rfl rfl rfl rfl).trans rfl) fun K hK => ?_
  refine w_call hF (x_enter Tryd.func9 (by kernel_rfl) rfl (by simp only [List.map_toArray, List.map_cons, List.map_nil, hF.tmp 44 rfl, hF.tmp 45 rfl] <;> rfl)) (send_nil (m := m) _ ((hH.rd 910 rfl)) ((hH.rd 911 rfl))) rfl rfl ?_
  rintro _ w ⟨rfl, hm_⟩; refine ⟨_, rfl, ?_⟩; clear hF; intro a hF; have hH := hH.same hm_
  refine hK _ _ ?_; clear hK K
  refine l_atg hF ((wanted_of hF rfl rfl rfl rfl).trans rfl) rfl rfl (x_eql (hF.tmp 46 rfl) rfl) ?_; clear hF; intro a hF
  refine l_at hF rfl rfl rfl (x_pickT (hF.tmp 43 rfl) rfl (hF.tmp 47 rfl)) ?_; clear hF; intro a hF
  refine l_at hF rfl rfl rfl (x_move (hF.tmp 48 rfl)) ?_; clear hF; intro a hF
  refine l_atg hF ((wanted_of hF rfl rfl rfl rfl).trans rfl) rfl rfl (x_move (hF.tmp 6 rfl)) ?_; clear hF; intro a hF
  refine l_atg hF ((wanted_of hF rfl rfl rfl rfl).trans rfl) rfl rfl (x_move (hF.tmp 1 rfl)) ?_; clear hF; intro a hF
  refine wpList_on ((wanted_of hF rfl rfl rfl rfl).trans rfl) fun K hK => ?_
  refine w_call hF (x_enter Tryd.func16 (by kernel_rfl) rfl (by simp only [List.map_toArray, List.map_cons, List.map_nil, hF.tmp 50 rfl, hF.tmp 51 rfl] <;> rfl)) (twice_nil _ i) rfl rfl ?_
  rintro _ w ⟨rfl, hm_⟩; refine ⟨_, rfl, ?_⟩; clear hF; intro a hF; have hH := hH.same hm_
  refine hK _ _ ?_; clear hK K
  refine l_atg hF ((wanted_of hF rfl rfl rfl rfl).trans rfl) rfl rfl (x_eql (hF.tmp 52 rfl) rfl) ?_; clear hF; intro a hF
  refine l_at hF rfl rfl rfl (x_pickT (hF.tmp 49 rfl) rfl (hF.tmp 53 rfl)) ?_; clear hF; intro a hF
  refine l_at hF rfl rfl rfl (x_move (hF.tmp 54 rfl)) ?_; clear hF; intro a hF
  refine l_atg hF ((wanted_of hF rfl rfl rfl rfl).trans rfl) rfl rfl (x_move (hF.tmp 6 rfl)) ?_; clear hF; intro a hF
  refine l_atg hF ((wanted_of hF rfl rfl rfl rfl).trans rfl) rfl rfl (x_move (hF.tmp 1 rfl)) ?_; clear hF; intro a hF
  refine wpList_on ((wanted_of hF rfl rfl rfl rfl).trans rfl) fun K hK => ?_
  refine w_call hF (x_enter Tryd.func18 (by kernel_rfl) rfl (by simp only [List.map_toArray, List.map_cons, List.map_nil, hF.tmp 56 rfl, hF.tmp 57 rfl] <;> rfl)) (lose_nil _ i) rfl rfl ?_
  rintro _ w ⟨rfl, hm_⟩; refine ⟨_, rfl, ?_⟩; clear hF; intro a hF; have hH := hH.same hm_
  refine hK _ _ ?_; clear hK K
  refine l_atg hF ((wanted_of hF rfl rfl rfl rfl).trans rfl) rfl rfl (x_eql (hF.tmp 58 rfl) rfl) ?_; clear hF; intro a hF
  refine l_at hF rfl rfl rfl (x_pickT (hF.tmp 55 rfl) rfl (hF.tmp 59 rfl)) ?_; clear hF; intro a hF
  refine l_at hF rfl rfl rfl (x_move (hF.tmp 60 rfl)) ?_; clear hF; intro a hF
  refine l_atg hF ((wanted_of hF rfl rfl rfl rfl).trans rfl) rfl rfl (x_move (hF.tmp 6 rfl)) ?_; clear hF; intro a hF
  refine l_atg hF ((wanted_of hF rfl rfl rfl rfl).trans rfl) rfl rfl (x_move (hF.tmp 1 rfl)) ?_; clear hF; intro a hF
  refine wpList_on ((wanted_of hF rfl rfl rfl rfl).trans rfl) fun K hK => ?_
  refine w_call hF (x_enter Tryd.func10 (by kernel_rfl) rfl (by simp only [List.map_toArray, List.map_cons, List.map_nil, hF.tmp 62 rfl, hF.tmp 63 rfl] <;> rfl)) (restart_nil _ i) rfl rfl ?_
  rintro _ w ⟨rfl, hm_⟩; refine ⟨_, rfl, ?_⟩; clear hF; intro a hF; have hH := hH.same hm_
  refine hK _ _ ?_; clear hK K
  refine l_atg hF ((wanted_of hF rfl rfl rfl rfl).trans rfl) rfl rfl (x_eql (hF.tmp 64 rfl) rfl) ?_; clear hF; intro a hF
  refine l_at hF rfl rfl rfl (x_pickT (hF.tmp 61 rfl) rfl (hF.tmp 65 rfl)) ?_; clear hF; intro a hF
  refine l_at hF rfl rfl rfl (x_move (hF.tmp 66 rfl)) ?_; clear hF; intro a hF
  refine l_atg hF ((wanted_of hF rfl rfl rfl rfl).trans rfl) rfl rfl (x_move (hF.tmp 6 rfl)) ?_; clear hF; intro a hF
  refine wpList_on ((wanted_of hF rfl rfl rfl rfl).trans rfl) fun K hK => ?_
  refine w_call hF (x_enter Tryd.func11 (by kernel_rfl) rfl (by simp only [List.map_toArray, List.map_cons, List.map_nil, hF.tmp 68 rfl] <;> rfl)) (len_nil _ i) rfl rfl ?_
  rintro _ w ⟨rfl, hm_⟩; refine ⟨_, rfl, ?_⟩; clear hF; intro a hF; have hH := hH.same hm_
  refine hK _ _ ?_; clear hK K
  refine l_atg hF ((wanted_of hF rfl rfl rfl rfl).trans rfl) rfl rfl (x_eql (hF.tmp 69 rfl) rfl) ?_; clear hF; intro a hF
  refine l_at hF rfl rfl rfl (x_pickT (hF.tmp 67 rfl) rfl (hF.tmp 70 rfl)) ?_; clear hF; intro a hF
  refine l_at hF rfl rfl rfl (x_move (hF.tmp 71 rfl)) ?_; clear hF; intro a hF
  refine l_atg hF ((wanted_of hF rfl rfl rfl rfl).trans rfl) rfl rfl (x_move (hF.tmp 6 rfl)) ?_; clear hF; intro a hF
  refine l_atg hF ((wanted_of hF rfl rfl rfl rfl).trans rfl) rfl rfl (x_move (hF.tmp 1 rfl)) ?_; clear hF; intro a hF
  refine wpList_on ((wanted_of hF rfl rfl rfl rfl).trans rfl) fun K hK => ?_
  refine w_call hF (x_enter Tryd.func17 (by kernel_rfl) rfl (by simp only [List.map_toArray, List.map_cons, List.map_nil, hF.tmp 73 rfl, hF.tmp 74 rfl] <;> rfl)) (epoch_nil _ i) rfl rfl ?_
  rintro _ w ⟨rfl, hm_⟩; refine ⟨_, rfl, ?_⟩; clear hF; intro a hF; have hH := hH.same hm_
  refine hK _ _ ?_; clear hK K
  refine l_atg hF ((wanted_of hF rfl rfl rfl rfl).trans rfl) rfl rfl (x_eql (hF.tmp 75 rfl) rfl) ?_; clear hF; intro a hF
  refine l_at hF rfl rfl rfl (x_pickT (hF.tmp 72 rfl) rfl (hF.tmp 76 rfl)) ?_; clear hF; intro a hF
  refine l_at hF rfl rfl rfl (x_move (hF.tmp 77 rfl)) ?_; clear hF; intro a hF
  refine l_atg hF ((wanted_of hF rfl rfl rfl rfl).trans rfl) rfl rfl (x_move (hF.tmp 6 rfl)) ?_; clear hF; intro a hF
  refine wpList_on ((wanted_of hF rfl rfl rfl rfl).trans rfl) fun K hK => ?_
  refine w_call hF (x_enter Tryd.func15 (by kernel_rfl) rfl (by simp only [List.map_toArray, List.map_cons, List.map_nil, hF.tmp 79 rfl] <;> rfl)) (lost_nil _ i) rfl rfl ?_
  rintro _ w ⟨rfl, hm_⟩; refine ⟨_, rfl, ?_⟩; clear hF; intro a hF; have hH := hH.same hm_
  refine hK _ _ ?_; clear hK K
  refine l_atg hF ((wanted_of hF rfl rfl rfl rfl).trans rfl) rfl rfl (x_eql (hF.tmp 80 rfl) rfl) ?_; clear hF; intro a hF
  refine l_at hF rfl rfl rfl (x_pickT (hF.tmp 78 rfl) rfl (hF.tmp 81 rfl)) ?_; clear hF; intro a hF
  refine l_at hF rfl rfl rfl (x_assign (hF.tmp 82 rfl)) ?_; clear hF; intro a hF
  refine wpList_nil ?_
  refine hK9 _ _ ?_
  refine wp_ret ?_
  try simp only [Exit.then, Exit.inBlock]
  exact fin_ret hF (res1 (v := .bool true) hF rfl rfl) ⟨rfl, hH.mods⟩
set_option maxRecDepth 100000 in
set_option maxHeartbeats 1000000 in
theorem bFull_calls (w0 : World) (hL : LibAt true w0) {m : MessageD} {okm0 : Nat → Prop} {Am0 : Option Addr} {cm0 : Nat} (hrm0 : Rd (Rep.int .i64) w0 okm0 Am0 m.nodes cm0) {okm1 : Nat → Prop} {Am1 : Option Addr} {cm1 : Nat} (hrm1 : Rd ChgE w0 okm1 Am1 m.changes cm1) (hb : MessageB m) (n : Int) : Calls Tryd.prog 4 #[.agg #[.int .i64 m.kind, .int .i64 m.src, .int .i64 m.dst, .int .i64 m.tx, .slice Am0 m.nodes.length cm0, .slice Am1 m.changes.length cm1], .int .i64 n] w0 fun e w' => e = .returned (.bool true) ∧ Mods (fun _ => False) w0 w' := by
 refine calls_of_wp Tryd.func4 rfl ?_
 have hF := Fr.enter #[.agg #[.int .i64 m.kind, .int .i64 m.src, .int .i64 m.dst, .int .i64 m.tx, .slice Am0 m.nodes.length cm0, .slice Am1 m.changes.length cm1], .int .i64 n] 109 (slotsOf [.agg #[.int .i64 m.kind, .int .i64 m.src, .int .i64 m.dst, .int .i64 m.tx, .slice Am0 m.nodes.length cm0, .slice Am1 m.changes.length cm1], .int .i64 n] 0) (Nat.le_of_ble_eq_true rfl) (fun i v h => by have h2 := (get_slotsOf _ 0 i v h).2; simpa only [List.getElem?_toArray, Nat.sub_zero] using h2)
 have hH := Hp.nil (fun _ => False) w0
 rw [Tryd.ntmps4]
 revert hF; generalize (⟨(#[.agg #[.int .i64 m.kind, .int .i64 m.src, .int .i64 m.dst, .int .i64 m.tx, .slice Am0 m.nodes.length cm0, .slice Am1 m.changes.length cm1], .int .i64 n] : Array Value) ++ Array.replicate (109 - (#[.agg #[.int .i64 m.kind, .int .i64 m.src, .int .i64 m.dst, .int .i64 m.tx, .slice Am0 m.nodes.length cm0, .slice Am1 m.changes.length cm1], .int .i64 n] : Array Value).size) undef, []⟩ : Act) = a; intro hF
 have hH := hH.arg 910 hrm0.all (fun _ h => ⟨h, fun h => h⟩)
 have hlem0 := hrm0.le; unfold maxLen at hlem0
 have hH := hH.arg 911 hrm1.all (fun _ h => ⟨h, fun h => h⟩)
 have hlem1 := hrm1.le; unfold maxLen at hlem1
 have hH := hH.libN 990 hL
 refine wp_seq_k fun khK1 hK1 => ?_
 refine wp_region_lit ?_
 refine wpList_plain rfl fun K hK => ?_
 refine w_box 2 hF hH rfl (hF.tmp 0 rfl) ?_
 clear hF hH; intro a w b2 hF hH
 refine hK _ _ ?_; clear hK K
 refine l_at hF rfl rfl rfl (x_assign rfl) ?_; clear hF; intro a hF
 refine wpList_nil ?_
 refine hK1 _ _ ?_
 refine wp_seq_k fun khK2 hK2 => ?_
 refine wp_region_lit ?_
 refine wpList_plain rfl fun K hK => ?_
 refine w_call hF (x_enter Tryd.func7 (by kernel_rfl) rfl (by simp only [List.map_toArray, List.map_cons, List.map_nil] <;> rfl)) (bnew_calls _) rfl rfl ?_
 rintro _ w ⟨bb, X0, rfl, hX0, hxo_, hm_, hxn_, hxr_⟩; refine ⟨_, rfl, ?_⟩; clear hF; intro a hF; have hH := hH.newX 100 hm_ hxo_ hxn_ (fun k hk => (hxr_ k hk).elim)
 refine hK _ _ ?_; clear hK K
 refine l_at hF rfl rfl rfl (x_assign (hF.tmp 13 rfl)) ?_; clear hF; intro a hF
 refine wpList_nil ?_
 refine hK2 _ _ ?_
 refine wp_seq_k fun khK3 hK3 => ?_
 refine wp_region_lit ?_
 refine l_at hF rfl rfl rfl (x_loadn ty30 (hF.tmp 2 rfl) rfl (blk_whole (hH.at 2 rfl))) ?_; clear hF; intro a hF
 refine wpList_plain rfl fun K hK => ?_
 refine w_call hF (x_enter Tryd.func8 (by kernel_rfl) rfl (by simp only [List.map_toArray, List.map_cons, List.map_nil, hF.tmp 14 rfl] <;> rfl)) (fitsM_calls _ ((hH.rd 910 rfl)) ((hH.rd 911 rfl))) rfl rfl ?_
 rintro _ w ⟨bf_, rfl, hm_⟩; refine ⟨_, rfl, ?_⟩; clear hF; intro a hF; have hH := hH.same hm_
 refine hK _ _ ?_; clear hK K
 refine l_at hF rfl rfl rfl (x_assign (hF.tmp 15 rfl)) ?_; clear hF; intro a hF
 refine wpList_nil ?_
 refine hK3 _ _ ?_
 refine wp_seq_k fun khK4 hK4 => ?_
 refine wp_seq_k fun khK5 hK5 => ?_
 refine wp_region_lit ?_
 refine l_at hF rfl rfl rfl (x_move (hF.tmp 5 rfl)) ?_; clear hF; intro a hF
 refine l_at hF rfl rfl rfl (x_ptrnil Tryd.underlying23 (hF.tmp 16 rfl) rfl) ?_; clear hF; intro a hF
 refine l_at hF rfl rfl rfl (x_move (hF.tmp 17 rfl)) ?_; clear hF; intro a hF
 refine l_atg hF ((wanted_of hF rfl rfl rfl rfl).trans rfl) rfl rfl (x_move (hF.tmp 6 rfl)) ?_; clear hF; intro a hF
 refine l_atg hF ((wanted_of hF rfl rfl rfl rfl).trans rfl) rfl rfl (x_not (hF.tmp 19 rfl)) ?_; clear hF; intro a hF
 refine l_at hF rfl rfl rfl (x_pickF (hF.tmp 18 rfl) rfl (hF.tmp 20 rfl)) ?_; clear hF; intro a hF
 refine l_at hF rfl rfl rfl (x_move (hF.tmp 21 rfl)) ?_; clear hF; intro a hF
 refine split_bool hF 22 rfl (fun hb22 => ?_) (fun hb22 => ?_)
 ·have hc22 := hb22; try simp only [Bool.or_eq_true, Bool.and_eq_true, Bool.or_eq_false_iff, Bool.and_eq_false_iff, Bool.not_eq_true', Bool.not_eq_false', decide_eq_true_eq, decide_eq_false_iff_not, Bool.not_true, Bool.not_false] at hc22
  refine l_offg hF ((wanted_of hF rfl rfl rfl rfl).trans (by rw [hb22]; rfl)) rfl rfl ?_; clear hF; intro a hF
  refine l_offg hF ((wanted_of hF rfl rfl rfl rfl).trans (by rw [hb22]; rfl)) rfl rfl ?_; clear hF; intro a hF
  refine l_at hF rfl rfl rfl (x_pickT (hF.tmp 22 rfl) hb22 rfl) ?_; clear hF; intro a hF
  refine l_at hF rfl rfl rfl (x_move (hF.tmp 25 rfl)) ?_; clear hF; intro a hF
  refine l_offg hF ((wanted_of hF rfl rfl rfl rfl).trans rfl) rfl rfl ?_; clear hF; intro a hF
  refine l_offg hF ((wanted_of hF rfl rfl rfl rfl).trans rfl) rfl rfl ?_; clear hF; intro a hF
  refine l_at hF rfl rfl rfl (x_pickT (hF.tmp 26 rfl) rfl rfl) ?_; clear hF; intro a hF
  refine wpList_nil ?_
  refine hK5 _ _ ?_
  refine wp_cond_true (hF.tmp 29 rfl) ?_
  refine wp_seq_k fun khK6 hK6 => ?_
  refine wp_region_lit ?_
  refine l_at hF rfl rfl rfl (x_move (hF.tmp 5 rfl)) ?_; clear hF; intro a hF
  refine l_at hF rfl rfl rfl (x_ptrne Tryd.underlying23 (hF.tmp 30 rfl) rfl) ?_; clear hF; intro a hF
  refine l_at hF rfl rfl rfl (x_assign (hF.tmp 31 rfl)) ?_; clear hF; intro a hF
  refine wpList_nil ?_
  refine hK6 _ _ ?_
  refine wp_ret ?_
  try simp only [Exit.then, Exit.inBlock]
  exact fin_ret hF (res1 (v := .bool true) hF rfl rfl) ⟨rfl, hH.mods⟩
 ·have hc22 := hb22; try simp only [Bool.or_eq_true, Bool.and_eq_true, Bool.or_eq_false_iff, Bool.and_eq_false_iff, Bool.not_eq_true', Bool.not_eq_false', decide_eq_true_eq, decide_eq_false_iff_not, Bool.not_true, Bool.not_false] at hc22
  refine l_atg hF ((wanted_of hF rfl rfl rfl rfl).trans (by rw [hb22]; rfl)) rfl rfl (x_move (hF.tmp 1 rfl)) ?_; clear hF; intro a hF
  refine l_atg hF ((wanted_of hF rfl rfl rfl rfl).trans (by rw [hb22]; rfl)) rfl rfl (x_lss (hF.tmp 23 rfl) rfl) ?_; clear hF; intro a hF
  refine l_at hF rfl rfl rfl (x_pickF (hF.tmp 22 rfl) hb22 (hF.tmp 24 rfl)) ?_; clear hF; intro a hF
  refine l_at hF rfl rfl rfl (x_move (hF.tmp 25 rfl)) ?_; clear hF; intro a hF
  refine split_bool hF 26 rfl (fun hb26 => ?_) (fun hb26 => ?_)
  ·have hc26 := hb26; try simp only [Bool.or_eq_true, Bool.and_eq_true, Bool.or_eq_false_iff, Bool.and_eq_false_iff, Bool.not_eq_true', Bool.not_eq_false', decide_eq_true_eq, decide_eq_false_iff_not, Bool.not_true, Bool.not_false] at hc26
   refine l_offg hF ((wanted_of hF rfl rfl rfl rfl).trans (by rw [hb26]; rfl)) rfl rfl ?_; clear hF; intro a hF
   refine l_offg hF ((wanted_of hF rfl rfl rfl rfl).trans (by rw [hb26]; rfl)) rfl rfl ?_; clear hF; intro a hF
   refine l_at hF rfl rfl rfl (x_pickT (hF.tmp 26 rfl) hb26 rfl) ?_; clear hF; intro a hF
   refine wpList_nil ?_
   refine hK5 _ _ ?_
   refine wp_cond_true (hF.tmp 29 rfl) ?_
   refine wp_seq_k fun khK7 hK7 => ?_
   refine wp_region_lit ?_
   refine l_at hF rfl rfl rfl (x_move (hF.tmp 5 rfl)) ?_; clear hF; intro a hF
   refine l_at hF rfl rfl rfl (x_ptrne Tryd.underlying23 (hF.tmp 30 rfl) rfl) ?_; clear hF; intro a hF
   refine l_at hF rfl rfl rfl (x_assign (hF.tmp 31 rfl)) ?_; clear hF; intro a hF
   refine wpList_nil ?_
   refine hK7 _ _ ?_
   refine wp_ret ?_
   try simp only [Exit.then, Exit.inBlock]
   exact fin_ret hF (res1 (v := .bool true) hF rfl rfl) ⟨rfl, hH.mods⟩
  ·have hc26 := hb26; try simp only [Bool.or_eq_true, Bool.and_eq_true, Bool.or_eq_false_iff, Bool.and_eq_false_iff, Bool.not_eq_true', Bool.not_eq_false', decide_eq_true_eq, decide_eq_false_iff_not, Bool.not_true, Bool.not_false] at hc26
   refine l_atg hF ((wanted_of hF rfl rfl rfl rfl).trans (by rw [hb26]; rfl)) rfl rfl (x_move (hF.tmp 1 rfl)) ?_; clear hF; intro a hF
   refine l_atg hF ((wanted_of hF rfl rfl rfl rfl).trans (by rw [hb26]; rfl)) rfl rfl (x_gtr (hF.tmp 27 rfl) rfl) ?_; clear hF; intro a hF
   refine l_at hF rfl rfl rfl (x_pickF (hF.tmp 26 rfl) hb26 (hF.tmp 28 rfl)) ?_; clear hF; intro a hF
   refine wpList_nil ?_
   refine hK5 _ _ ?_
   refine wp_cond_split (hF.tmp 29 rfl) (fun hc29 => ?_) (fun hc29 => ?_)
   ·have hk29_1 := hc29; try simp only [Bool.or_eq_true, Bool.and_eq_true, Bool.or_eq_false_iff, Bool.and_eq_false_iff, Bool.not_eq_true', Bool.not_eq_false', decide_eq_true_eq, decide_eq_false_iff_not, Bool.not_true, Bool.not_false] at hc29
    refine wp_seq_k fun khK8 hK8 => ?_
    refine wp_region_lit ?_
    refine l_at hF rfl rfl rfl (x_move (hF.tmp 5 rfl)) ?_; clear hF; intro a hF
    refine l_at hF rfl rfl rfl (x_ptrne Tryd.underlying23 (hF.tmp 30 rfl) rfl) ?_; clear hF; intro a hF
    refine l_at hF rfl rfl rfl (x_assign (hF.tmp 31 rfl)) ?_; clear hF; intro a hF
    refine wpList_nil ?_
    refine hK8 _ _ ?_
    refine wp_ret ?_
    try simp only [Exit.then, Exit.inBlock]
    exact fin_ret hF (res1 (v := .bool true) hF rfl rfl) ⟨rfl, hH.mods⟩
   ·have hk29_2 := hc29; try simp only [Bool.or_eq_true, Bool.and_eq_true, Bool.or_eq_false_iff, Bool.and_eq_false_iff, Bool.not_eq_true', Bool.not_eq_false', decide_eq_true_eq, decide_eq_false_iff_not, Bool.not_true, Bool.not_false] at hc29
    refine wp_skip ?_
    refine hK4 _ _ ?_
    refine wp_seq_k fun khK9 hK9 => ?_
    refine wp_seq_k fun khK10 hK10 => ?_
    refine wp_region_lit ?_
    refine l_at hF rfl rfl rfl (x_move (hF.tmp 5 rfl)) ?_; clear hF; intro a hF
    refine l_at hF rfl rfl rfl (x_loadn ty30 (hF.tmp 2 rfl) rfl (blk_whole (hH.at 2 rfl))) ?_; clear hF; intro a hF
    refine wpList_plain rfl fun K hK => ?_
    refine w_call hF (x_enter Tryd.func9 (by kernel_rfl) rfl (by simp only [List.map_toArray, List.map_cons, List.map_nil, hF.tmp 32 rfl, hF.tmp 33 rfl] <;> rfl)) (send_calls (m := m) _ (hH.holds 990 _ rfl) hX0 (hH.okX 100 rfl) bag0_ok (fun k h hx => hH.sep 100 990 _ _ (by decide) rfl rfl k hx (.inr h)) ((hH.rd 910 rfl)) ((hH.rd 911 rfl)) hb (fun k h => hH.inb 910 _ rfl k (.inr h)) (fun k h => hH.inb 911 _ rfl k (.inr h)) (fun k h hx => hH.sep 100 910 _ _ (by decide) rfl rfl k hx (.inr h)) (fun k h hx => hH.sep 100 911 _ _ (by decide) rfl rfl k hx (.inr h))) rfl rfl ?_
    rintro _ w ⟨X1, rfl, hX1, hg_⟩; refine ⟨_, rfl, ?_⟩; clear hF; intro a hF; have hH := hH.grew 100 rfl hg_ (fun k hk => hk.elim)
    refine hK _ _ ?_; clear hK K
    refine l_at hF rfl rfl rfl (x_neq (hF.tmp 34 rfl) rfl) ?_; clear hF; intro a hF
    refine wpList_nil ?_
    refine hK10 _ _ ?_
    refine wp_cond_split (hF.tmp 35 rfl) (fun hc35 => ?_) (fun hc35 => ?_)
    ·have hk35_3 := hc35; try simp only [Bool.or_eq_true, Bool.and_eq_true, Bool.or_eq_false_iff, Bool.and_eq_false_iff, Bool.not_eq_true', Bool.not_eq_false', decide_eq_true_eq, decide_eq_false_iff_not, Bool.not_true, Bool.not_false] at hc35
     have hf_ := full_first.2 hc35
     have hX1 : BagA 51 58 bb bag0 X1 := by have h_ := hX1; rw [hf_.2] at h_; exact h_
     refine wp_seq_k fun khK11 hK11 => ?_
     refine wp_region_lit ?_
     refine wpList_plain rfl fun K hK => ?_
     refine w_call hF (x_enter Tryd.func14 (by kernel_rfl) rfl (by simp only [List.map_toArray, List.map_cons, List.map_nil] <;> rfl)) (balive_calls _ (hH.holds 990 _ rfl)) rfl rfl ?_
     rintro _ w ⟨rfl, hm_⟩; refine ⟨_, rfl, ?_⟩; clear hF; intro a hF; have hH := hH.same hm_
     refine hK _ _ ?_; clear hK K
     refine l_at hF rfl rfl rfl (x_move (hF.tmp 36 rfl)) ?_; clear hF; intro a hF
     refine l_atg hF ((wanted_of hF rfl rfl rfl rfl).trans rfl) rfl rfl (x_move (hF.tmp 5 rfl)) ?_; clear hF; intro a hF
     refine wpList_on ((wanted_of hF rfl rfl rfl rfl).trans rfl) fun K hK => ?_
     refine w_call hF (x_enter Tryd.func11 (by kernel_rfl) rfl (by simp only [List.map_toArray, List.map_cons, List.map_nil, hF.tmp 38 rfl] <;> rfl)) (blen_calls _ hX1 (hH.okX 100 rfl) bag0_ok) rfl rfl ?_
     rintro _ w ⟨rfl, hm_⟩; refine ⟨_, rfl, ?_⟩; clear hF; intro a hF; have hH := hH.same hm_
     refine hK _ _ ?_; clear hK K
     refine l_atg hF ((wanted_of hF rfl rfl rfl rfl).trans rfl) rfl rfl (x_eql (hF.tmp 39 rfl) rfl) ?_; clear hF; intro a hF
     refine l_at hF rfl rfl rfl (x_pickT (hF.tmp 37 rfl) rfl (hF.tmp 40 rfl)) ?_; clear hF; intro a hF
     refine l_at hF rfl rfl rfl (x_move (hF.tmp 41 rfl)) ?_; clear hF; intro a hF
     refine l_atg hF ((wanted_of hF rfl rfl rfl rfl).trans rfl) rfl rfl (x_move (hF.tmp 5 rfl)) ?_; clear hF; intro a hF
     refine wpList_on ((wanted_of hF rfl rfl rfl rfl).trans rfl) fun K hK => ?_
     refine w_call hF (x_enter Tryd.func15 (by kernel_rfl) rfl (by simp only [List.map_toArray, List.map_cons, List.map_nil, hF.tmp 43 rfl] <;> rfl)) (lost_calls _ hX1 (hH.okX 100 rfl) bag0_ok) rfl rfl ?_
     rintro _ w ⟨rfl, hm_⟩; refine ⟨_, rfl, ?_⟩; clear hF; intro a hF; have hH := hH.same hm_
     refine hK _ _ ?_; clear hK K
     refine l_atg hF ((wanted_of hF rfl rfl rfl rfl).trans rfl) rfl rfl (x_eql (hF.tmp 44 rfl) rfl) ?_; clear hF; intro a hF
     refine l_at hF rfl rfl rfl (x_pickT (hF.tmp 42 rfl) rfl (hF.tmp 45 rfl)) ?_; clear hF; intro a hF
     refine l_at hF rfl rfl rfl (x_assign (hF.tmp 46 rfl)) ?_; clear hF; intro a hF
     refine wpList_nil ?_
     refine hK11 _ _ ?_
     refine wp_ret ?_
     try simp only [Exit.then, Exit.inBlock]
     exact fin_ret hF (res1 (v := .bool true) hF rfl rfl) ⟨rfl, hH.mods⟩
    ·have hk35_4 := hc35; try simp only [Bool.or_eq_true, Bool.and_eq_true, Bool.or_eq_false_iff, Bool.and_eq_false_iff, Bool.not_eq_true', Bool.not_eq_false', decide_eq_true_eq, decide_eq_false_iff_not, Bool.not_true, Bool.not_false] at hc35
     have hr := (full_first.1 hc35).1
     have hX1 : BagA 51 58 bb (fullB m 1 0) X1 := by have h_ := hX1; rw [(full_first.1 hc35).2] at h_; exact h_
     refine wp_skip ?_
     refine hK9 _ _ ?_
     refine wp_seq_k fun khK12 hK12 => ?_
     refine wp_seq_k fun khK13 hK13 => ?_
     refine wp_region_lit ?_
     refine l_at hF rfl rfl rfl (x_assign rfl) ?_; clear hF; intro a hF
     refine wpList_nil ?_
     refine hK13 _ _ ?_
     refine wp_block ?_
     refine wp_loop_ghost (fun n_ a w => ∃ k : Nat, ∃ X : Asn, n_ = 500 - k ∧ (1 ≤ k) ∧ (k ≤ 500) ∧ (BagA 51 58 bb (fullB m k 0) X) ∧ Fr 109 a [(1, .int .i64 n), (2, .pointer (some ⟨b2, 0, none⟩)), (5, .pointer (some ⟨bb, 0, none⟩)), (7, .int .i64 (k : Int))] ∧ Hp (fun _ => False) w0 w [(910, .rd_ (.int .i64) Am0 m.nodes cm0 (fun k => k < w0.heap.size)), (911, .rd_ ChgE Am1 m.changes cm1 (fun k => k < w0.heap.size)), (990, .lib true), (2, .blk b2 (.cells #[.int .i64 m.kind, .int .i64 m.src, .int .i64 m.dst, .int .i64 m.tx, .slice Am0 m.nodes.length cm0, .slice Am1 m.changes.length cm1] 30 (0, 0))), (100, X)]) (500 - 1) ?_ ?_
     ·exact ⟨1, X1, rfl, by omega, by omega, hX1, ((((hF.bare.add hF 7 rfl).add hF 5 rfl).add hF 2 rfl).add hF 1 rfl), hH.sub _ (sub_cons (sub_cons (sub_cons (sub_cons (sub_cons (sub_nil _) 100 rfl) 2 rfl) 990 rfl) 911 rfl) 910 rfl)⟩
     ·rintro _ a w ⟨k, X, rfl, hq0_0, hq0_1, hq0_2, hF, hH⟩
      refine wp_seq_k fun khK14 hK14 => ?_
      refine wp_seq_k fun khK15 hK15 => ?_
      refine wp_region_lit ?_
      refine l_at hF rfl rfl rfl (x_move (hF.tmp 7 rfl)) ?_; clear hF; intro a hF
      refine l_at hF rfl rfl rfl (x_lss (hF.tmp 47 rfl) rfl) ?_; clear hF; intro a hF
      refine wpList_nil ?_
      refine hK15 _ _ ?_
      refine wp_cond_split (hF.tmp 48 rfl) (fun hc48 => ?_) (fun hc48 => ?_)
      ·have hk48_5 := hc48; try simp only [Bool.or_eq_true, Bool.and_eq_true, Bool.or_eq_false_iff, Bool.and_eq_false_iff, Bool.not_eq_true', Bool.not_eq_false', decide_eq_true_eq, decide_eq_false_iff_not, Bool.not_true, Bool.not_false] at hc48
       refine wp_skip ?_
       refine hK14 _ _ ?_
       refine wp_seq_k fun khK16 hK16 => ?_
       refine wp_block ?_
       refine wp_seq_k fun khK17 hK17 => ?_
       refine wp_region_lit ?_
       refine l_at hF rfl rfl rfl (x_move (hF.tmp 5 rfl)) ?_; clear hF; intro a hF
       refine l_at hF rfl rfl rfl (x_move (hF.tmp 7 rfl)) ?_; clear hF; intro a hF
       refine l_at hF rfl rfl rfl (x_sub (hF.tmp 52 rfl) rfl (w64 (by omega) (by omega))) ?_; clear hF; intro a hF
       refine wpList_plain rfl fun K hK => ?_
       refine w_call hF (x_enter Tryd.func16 (by kernel_rfl) rfl (by simp only [List.map_toArray, List.map_cons, List.map_nil, hF.tmp 51 rfl, hF.tmp 53 rfl] <;> rfl)) (twice_calls _ (hH.holds 990 _ rfl) hq0_2 (hH.okX 100 rfl) (full_ok hr hb (by omega)) (fun k h hx => hH.sep 100 990 _ _ (by decide) rfl rfl k hx (.inr h)) ((k : Int) - 1)) rfl rfl ?_
       rintro _ w ⟨X2, rfl, hX2, hg_⟩; refine ⟨_, rfl, ?_⟩; clear hF; intro a hF; have hH := hH.grew 100 rfl hg_ (fun k hk => hk.elim)
       refine hK _ _ ?_; clear hK K
       rw [(full_twice (m := m) (k := k) (t := 0) (i := (k : Int) - 1) (by omega) (by omega) (by omega)).1] at hF
       have hX2 : BagA 51 58 bb (fullB m (k + 1) 0) X2 := by have h_ := hX2; rw [(full_twice (m := m) (k := k) (t := 0) (i := (k : Int) - 1) (by omega) (by omega) (by omega)).2] at h_; exact h_
       refine l_at hF rfl rfl rfl (x_neq (hF.tmp 54 rfl) rfl) ?_; clear hF; intro a hF
       refine wpList_nil ?_
       refine hK17 _ _ ?_
       refine wp_cond_false (hF.tmp 55 rfl) ?_
       refine wp_skip ?_
       refine hK16 _ _ ?_
       refine wp_region_lit ?_
       refine l_at hF rfl rfl rfl (x_move (hF.tmp 7 rfl)) ?_; clear hF; intro a hF
       refine l_at hF rfl rfl rfl (x_add (hF.tmp 49 rfl) rfl (w64 (by omega) (by omega))) ?_; clear hF; intro a hF
       refine l_at hF rfl rfl rfl (x_assign (hF.tmp 50 rfl)) ?_; clear hF; intro a hF
       refine wpList_nil ?_
       exact ⟨_, by omega, ⟨k + 1, X2, rfl, by omega, by omega, hX2, ((((hF.bare.add hF 7 rfl).add hF 5 rfl).add hF 2 rfl).add hF 1 rfl), hH.sub _ (sub_cons (sub_cons (sub_cons (sub_cons (sub_cons (sub_nil _) 100 rfl) 2 rfl) 990 rfl) 911 rfl) 910 rfl)⟩⟩
      ·have hk48_6 := hc48; try simp only [Bool.or_eq_true, Bool.and_eq_true, Bool.or_eq_false_iff, Bool.and_eq_false_iff, Bool.not_eq_true', Bool.not_eq_false', decide_eq_true_eq, decide_eq_false_iff_not, Bool.not_true, Bool.not_false] at hc48
       obtain rfl : k = 500 := by omega
       refine wp_exit ?_
       refine hK12 _ _ ?_
       refine wp_seq_k fun khK18 hK18 => ?_
       refine wp_seq_k fun khK19 hK19 => ?_
       refine wp_region_lit ?_
       refine l_at hF rfl rfl rfl (x_assign rfl) ?_; clear hF; intro a hF
       refine wpList_nil ?_
       refine hK19 _ _ ?_
       refine wp_block ?_
       refine wp_loop_ghost (fun n_ a w => ∃ j : Nat, ∃ X : Asn, n_ = n.toNat - j ∧ ((j : Int) ≤ n) ∧ (BagA 51 58 bb (fullB m 500 (2 * (j : Int))) X) ∧ Fr 109 a [(1, .int .i64 n), (2, .pointer (some ⟨b2, 0, none⟩)), (5, .pointer (some ⟨bb, 0, none⟩)), (8, .int .i64 (j : Int))] ∧ Hp (fun _ => False) w0 w [(910, .rd_ (.int .i64) Am0 m.nodes cm0 (fun k => k < w0.heap.size)), (911, .rd_ ChgE Am1 m.changes cm1 (fun k => k < w0.heap.size)), (990, .lib true), (2, .blk b2 (.cells #[.int .i64 m.kind, .int .i64 m.src, .int .i64 m.dst, .int .i64 m.tx, .slice Am0 m.nodes.length cm0, .slice Am1 m.changes.length cm1] 30 (0, 0))), (100, X)]) (n.toNat) ?_ ?_
       ·exact ⟨0, X, rfl, by omega, hq0_2, ((((hF.bare.add hF 8 rfl).add hF 5 rfl).add hF 2 rfl).add hF 1 rfl), hH.sub _ (sub_cons (sub_cons (sub_cons (sub_cons (sub_cons (sub_nil _) 100 rfl) 2 rfl) 990 rfl) 911 rfl) 910 rfl)⟩
       ·rintro _ a w ⟨j, X, rfl, hq2_0, hq2_1, hF, hH⟩
        refine wp_seq_k fun khK20 hK20 => ?_
        refine wp_seq_k fun khK21 hK21 => ?_
        refine wp_region_lit ?_
        refine l_at hF rfl rfl rfl (x_move (hF.tmp 8 rfl)) ?_; clear hF; intro a hF
        refine l_at hF rfl rfl rfl (x_move (hF.tmp 1 rfl)) ?_; clear hF; intro a hF
        refine l_at hF rfl rfl rfl (x_lss (hF.tmp 56 rfl) (hF.tmp 57 rfl)) ?_; clear hF; intro a hF
        refine wpList_nil ?_
        refine hK21 _ _ ?_
        refine wp_cond_split (hF.tmp 58 rfl) (fun hc58 => ?_) (fun hc58 => ?_)
        ·have hk58_7 := hc58; try simp only [Bool.or_eq_true, Bool.and_eq_true, Bool.or_eq_false_iff, Bool.and_eq_false_iff, Bool.not_eq_true', Bool.not_eq_false', decide_eq_true_eq, decide_eq_false_iff_not, Bool.not_true, Bool.not_false] at hc58
         refine wp_skip ?_
         refine hK20 _ _ ?_
         refine wp_seq_k fun khK22 hK22 => ?_
         refine wp_block ?_
         refine wp_seq_k fun khK23 hK23 => ?_
         refine wp_region_lit ?_
         refine l_at hF rfl rfl rfl (x_move (hF.tmp 5 rfl)) ?_; clear hF; intro a hF
         refine l_at hF rfl rfl rfl (x_loadn ty30 (hF.tmp 2 rfl) rfl (blk_whole (hH.at 2 rfl))) ?_; clear hF; intro a hF
         refine wpList_plain rfl fun K hK => ?_
         refine w_call hF (x_enter Tryd.func9 (by kernel_rfl) rfl (by simp only [List.map_toArray, List.map_cons, List.map_nil, hF.tmp 61 rfl, hF.tmp 62 rfl] <;> rfl)) (send_calls (m := m) _ (hH.holds 990 _ rfl) hq2_1 (hH.okX 100 rfl) (full_ok hr hb (by omega)) (fun k h hx => hH.sep 100 990 _ _ (by decide) rfl rfl k hx (.inr h)) ((hH.rd 910 rfl)) ((hH.rd 911 rfl)) hb (fun k h => hH.inb 910 _ rfl k (.inr h)) (fun k h => hH.inb 911 _ rfl k (.inr h)) (fun k h hx => hH.sep 100 910 _ _ (by decide) rfl rfl k hx (.inr h)) (fun k h hx => hH.sep 100 911 _ _ (by decide) rfl rfl k hx (.inr h))) rfl rfl ?_
         rintro _ w ⟨X2, rfl, hX2, hg_⟩; refine ⟨_, rfl, ?_⟩; clear hF; intro a hF; have hH := hH.grew 100 rfl hg_ (fun k hk => hk.elim)
         refine hK _ _ ?_; clear hK K
         rw [(full_lost hr (t := 2 * (j : Int)) (by omega) (by omega) (i := (j : Int)) (by omega) (by omega)).1] at hF
         have hX2 : BagA 51 58 bb (fullB m 500 (2 * (j : Int) + 1)) X2 := by have h_ := hX2; rw [(full_lost hr (t := 2 * (j : Int)) (by omega) (by omega) (i := (j : Int)) (by omega) (by omega)).2.1] at h_; exact h_
         refine l_at hF rfl rfl rfl (x_neq (hF.tmp 63 rfl) rfl) ?_; clear hF; intro a hF
         refine l_at hF rfl rfl rfl (x_move (hF.tmp 64 rfl)) ?_; clear hF; intro a hF
         refine l_atg hF ((wanted_of hF rfl rfl rfl rfl).trans rfl) rfl rfl (x_move (hF.tmp 5 rfl)) ?_; clear hF; intro a hF
         refine l_atg hF ((wanted_of hF rfl rfl rfl rfl).trans rfl) rfl rfl (x_move (hF.tmp 8 rfl)) ?_; clear hF; intro a hF
         refine wpList_on ((wanted_of hF rfl rfl rfl rfl).trans rfl) fun K hK => ?_
         refine w_call hF (x_enter Tryd.func16 (by kernel_rfl) rfl (by simp only [List.map_toArray, List.map_cons, List.map_nil, hF.tmp 66 rfl, hF.tmp 67 rfl] <;> rfl)) (twice_calls _ (hH.holds 990 _ rfl) hX2 (hH.okX 100 rfl) (full_ok hr hb (by omega)) (fun k h hx => hH.sep 100 990 _ _ (by decide) rfl rfl k hx (.inr h)) (j : Int)) rfl rfl ?_
         rintro _ w ⟨X3, rfl, hX3, hg_⟩; refine ⟨_, rfl, ?_⟩; clear hF; intro a hF; have hH := hH.grew 100 rfl hg_ (fun k hk => hk.elim)
         refine hK _ _ ?_; clear hK K
         rw [(full_lost hr (t := 2 * (j : Int) + 1) (by omega) (by omega) (i := (j : Int)) (by omega) (by omega)).2.2.1] at hF
         have hX3 : BagA 51 58 bb (fullB m 500 (2 * (j : Int) + 1 + 1)) X3 := by have h_ := hX3; rw [(full_lost hr (t := 2 * (j : Int) + 1) (by omega) (by omega) (i := (j : Int)) (by omega) (by omega)).2.2.2] at h_; exact h_
         refine l_atg hF ((wanted_of hF rfl rfl rfl rfl).trans rfl) rfl rfl (x_neq (hF.tmp 68 rfl) rfl) ?_; clear hF; intro a hF
         refine l_at hF rfl rfl rfl (x_pickF (hF.tmp 65 rfl) rfl (hF.tmp 69 rfl)) ?_; clear hF; intro a hF
         refine wpList_nil ?_
         refine hK23 _ _ ?_
         refine wp_cond_false (hF.tmp 70 rfl) ?_
         refine wp_skip ?_
         refine hK22 _ _ ?_
         refine wp_region_lit ?_
         refine l_at hF rfl rfl rfl (x_move (hF.tmp 8 rfl)) ?_; clear hF; intro a hF
         refine l_at hF rfl rfl rfl (x_add (hF.tmp 59 rfl) rfl (w64 (by omega) (by omega))) ?_; clear hF; intro a hF
         refine l_at hF rfl rfl rfl (x_assign (hF.tmp 60 rfl)) ?_; clear hF; intro a hF
         refine wpList_nil ?_
         exact ⟨_, by omega, ⟨j + 1, X3, rfl, by omega, by rw [show (2 * ((j + 1 : Nat) : Int)) = 2 * (j : Int) + 1 + 1 by omega]; exact hX3, ((((hF.bare.add hF 8 rfl).add hF 5 rfl).add hF 2 rfl).add hF 1 rfl), hH.sub _ (sub_cons (sub_cons (sub_cons (sub_cons (sub_cons (sub_nil _) 100 rfl) 2 rfl) 990 rfl) 911 rfl) 910 rfl)⟩⟩
        ·have hk58_8 := hc58; try simp only [Bool.or_eq_true, Bool.and_eq_true, Bool.or_eq_false_iff, Bool.and_eq_false_iff, Bool.not_eq_true', Bool.not_eq_false', decide_eq_true_eq, decide_eq_false_iff_not, Bool.not_true, Bool.not_false] at hc58
         have hjn : (j : Int) = n := by omega
         refine wp_exit ?_
         refine hK18 _ _ ?_
         refine wp_seq_k fun khK24 hK24 => ?_
         refine wp_region_lit ?_
         refine l_at hF rfl rfl rfl (x_move (hF.tmp 5 rfl)) ?_; clear hF; intro a hF
         refine wpList_plain rfl fun K hK => ?_
         refine w_call hF (x_enter Tryd.func12 (by kernel_rfl) rfl (by simp only [List.map_toArray, List.map_cons, List.map_nil, hF.tmp 72 rfl] <;> rfl)) (take_calls _ (hH.holds 990 _ rfl) hq2_1 (hH.okX 100 rfl) (full_ok hr hb (by omega)) (fun k h hx => hH.sep 100 990 _ _ (by decide) rfl rfl k hx (.inr h)) 499) rfl rfl ?_
         rintro _ w ⟨X2, An70, cn70, Ac70, cc70, okm70, rfl, hX2, hg_, ⟨h1_, h2_⟩, hf_, hap_⟩; refine ⟨_, rfl, ?_⟩; clear hF; intro a hF; have hHo := hH; have hH := hHo.grew 100 rfl hg_ (fun k hk => hk.elim); have hH := hH.readNew (w := _) 100 70 (own_old hHo) (fun Y hY => by cases hY; exact hap_) h1_ hf_; have hH := hH.readNew 100 71 (own_old2 hHo) (fun Y hY => by cases hY; exact hap_) h2_ hf_
         refine hK _ _ ?_; clear hK K
         have hX2 : BagA 51 58 bb (fullB m 499 (2 * (j : Int))) X2 := by have h_ := hX2; rw [(full_take hr).2.2.2] at h_; exact h_
         refine l_at hF rfl rfl rfl (x_move (hF.tmp 73 rfl)) ?_; clear hF; intro a hF
         refine l_at hF rfl rfl rfl (x_extract (hF.tmp 71 rfl) rfl) ?_; clear hF; intro a hF
         refine l_at hF rfl rfl rfl (x_extract (hF.tmp 71 rfl) rfl) ?_; clear hF; intro a hF
         refine l_at hF rfl rfl rfl (x_extract (hF.tmp 71 rfl) rfl) ?_; clear hF; intro a hF
         refine wpList_plain rfl fun K hK => ?_
         refine w_alloc 9 hF hH rfl ty30 ?_
         clear hF hH; intro a w b9 hF hH
         refine hK _ _ ?_; clear hK K
         refine wpList_plain rfl fun K hK => ?_
         refine w_storeA 9 hH ty30 rfl (hF.tmp 9 rfl) (hF.tmp 74 rfl) rfl (by simp [Value.cells, Value.oneCell']) rfl ?_
         clear hH; intro w hH
         refine hK _ _ ?_; clear hK K
         refine l_at hF rfl rfl rfl (x_assign (hF.tmp 75 rfl)) ?_; clear hF; intro a hF
         refine l_at hF rfl rfl rfl (x_assign (hF.tmp 76 rfl)) ?_; clear hF; intro a hF
         refine wpList_nil ?_
         refine hK24 _ _ ?_
         refine wp_seq_k fun khK25 hK25 => ?_
         refine wp_region_lit ?_
         refine l_at hF rfl rfl rfl (x_loadn ty30 (hF.tmp 9 rfl) rfl (blk_whole (hH.at 9 rfl))) ?_; clear hF; intro a hF
         refine l_at hF rfl rfl rfl (x_loadn ty30 (hF.tmp 2 rfl) rfl (blk_whole (hH.at 2 rfl))) ?_; clear hF; intro a hF
         refine wpList_plain rfl fun K hK => ?_
         refine w_call hF (x_enter Tryd.func13 (by kernel_rfl) rfl (by simp only [List.map_toArray, List.map_cons, List.map_nil, hF.tmp 77 rfl, hF.tmp 78 rfl] <;> rfl)) (r16same_calls _ ((hH.rd 70 rfl)) ((hH.rd 71 rfl)) ((hH.rd 910 rfl)) ((hH.rd 911 rfl)) (look_B (full_ok hr hb (by omega)) 499) hb) rfl rfl ?_
         rintro _ w ⟨rfl, hm_⟩; refine ⟨_, rfl, ?_⟩; clear hF; intro a hF; have hH := hH.same hm_
         refine hK _ _ ?_; clear hK K
         rw [decide_eq_true (full_take hr (t := 2 * (j : Int))).1] at hF
         refine l_at hF rfl rfl rfl (x_assign (hF.tmp 79 rfl)) ?_; clear hF; intro a hF
         refine wpList_nil ?_
         refine hK25 _ _ ?_
         refine wp_seq_k fun khK26 hK26 => ?_
         refine wp_region_lit ?_
         refine wpList_plain rfl fun K hK => ?_
         refine w_call hF (x_enter Tryd.func14 (by kernel_rfl) rfl (by simp only [List.map_toArray, List.map_cons, List.map_nil] <;> rfl)) (balive_calls _ (hH.holds 990 _ rfl)) rfl rfl ?_
         rintro _ w ⟨rfl, hm_⟩; refine ⟨_, rfl, ?_⟩; clear hF; intro a hF; have hH := hH.same hm_
         refine hK _ _ ?_; clear hK K
         refine l_at hF rfl rfl rfl (x_move (hF.tmp 80 rfl)) ?_; clear hF; intro a hF
         refine l_atg hF ((wanted_of hF rfl rfl rfl rfl).trans rfl) rfl rfl (x_move (hF.tmp 12 rfl)) ?_; clear hF; intro a hF
         refine l_at hF rfl rfl rfl (x_pickT (hF.tmp 81 rfl) rfl (hF.tmp 82 rfl)) ?_; clear hF; intro a hF
         refine l_at hF rfl rfl rfl (x_move (hF.tmp 83 rfl)) ?_; clear hF; intro a hF
         rw [(full_take hr (t := 2 * (j : Int))).2.2.1] at hF
         refine l_atg hF ((wanted_of hF rfl rfl rfl rfl).trans rfl) rfl rfl (x_move (hF.tmp 10 rfl)) ?_; clear hF; intro a hF
         refine l_at hF rfl rfl rfl (x_pickT (hF.tmp 84 rfl) rfl (hF.tmp 85 rfl)) ?_; clear hF; intro a hF
         refine l_at hF rfl rfl rfl (x_move (hF.tmp 86 rfl)) ?_; clear hF; intro a hF
         rw [(full_take hr (t := 2 * (j : Int))).2.1] at hF
         refine l_atg hF ((wanted_of hF rfl rfl rfl rfl).trans rfl) rfl rfl (x_move (hF.tmp 11 rfl)) ?_; clear hF; intro a hF
         refine l_atg hF ((wanted_of hF rfl rfl rfl rfl).trans rfl) rfl rfl (x_eql (hF.tmp 88 rfl) rfl) ?_; clear hF; intro a hF
         refine l_at hF rfl rfl rfl (x_pickT (hF.tmp 87 rfl) rfl (hF.tmp 89 rfl)) ?_; clear hF; intro a hF
         refine l_at hF rfl rfl rfl (x_move (hF.tmp 90 rfl)) ?_; clear hF; intro a hF
         refine l_atg hF ((wanted_of hF rfl rfl rfl rfl).trans rfl) rfl rfl (x_move (hF.tmp 5 rfl)) ?_; clear hF; intro a hF
         refine wpList_on ((wanted_of hF rfl rfl rfl rfl).trans rfl) fun K hK => ?_
         refine w_call hF (x_enter Tryd.func15 (by kernel_rfl) rfl (by simp only [List.map_toArray, List.map_cons, List.map_nil, hF.tmp 92 rfl] <;> rfl)) (lost_calls _ hX2 (hH.okX 100 rfl) (full_ok hr hb (by omega))) rfl rfl ?_
         rintro _ w ⟨rfl, hm_⟩; refine ⟨_, rfl, ?_⟩; clear hF; intro a hF; have hH := hH.same hm_
         refine hK _ _ ?_; clear hK K
         refine l_atg hF ((wanted_of hF rfl rfl rfl rfl).trans rfl) rfl rfl (x_move (hF.tmp 1 rfl)) ?_; clear hF; intro a hF
         refine l_atg hF ((wanted_of hF rfl rfl rfl rfl).trans rfl) rfl rfl (x_mul rfl (hF.tmp 94 rfl) (w64 (by omega) (by omega))) ?_; clear hF; intro a hF
         refine l_atg hF ((wanted_of hF rfl rfl rfl rfl).trans rfl) rfl rfl (x_eql (hF.tmp 93 rfl) (hF.tmp 95 rfl)) ?_; clear hF; intro a hF
         rw [decide_eq_true (show (fullB m 499 (2 * (j : Int))).lost = 2 * n by rw [← hjn]; rfl)] at hF
         refine l_at hF rfl rfl rfl (x_pickT (hF.tmp 91 rfl) rfl (hF.tmp 96 rfl)) ?_; clear hF; intro a hF
         refine l_at hF rfl rfl rfl (x_move (hF.tmp 97 rfl)) ?_; clear hF; intro a hF
         refine l_atg hF ((wanted_of hF rfl rfl rfl rfl).trans rfl) rfl rfl (x_move (hF.tmp 5 rfl)) ?_; clear hF; intro a hF
         refine l_atg hF ((wanted_of hF rfl rfl rfl rfl).trans rfl) rfl rfl (x_loadn ty30 (hF.tmp 2 rfl) rfl (blk_whole (hH.at 2 rfl))) ?_; clear hF; intro a hF
         refine wpList_on ((wanted_of hF rfl rfl rfl rfl).trans rfl) fun K hK => ?_
         refine w_call hF (x_enter Tryd.func9 (by kernel_rfl) rfl (by simp only [List.map_toArray, List.map_cons, List.map_nil, hF.tmp 99 rfl, hF.tmp 100 rfl] <;> rfl)) (send_calls (m := m) _ (hH.holds 990 _ rfl) hX2 (hH.okX 100 rfl) (full_ok hr hb (by omega)) (fun k h hx => hH.sep 100 990 _ _ (by decide) rfl rfl k hx (.inr h)) ((hH.rd 910 rfl)) ((hH.rd 911 rfl)) hb (fun k h => hH.inb 910 _ rfl k (.inr h)) (fun k h => hH.inb 911 _ rfl k (.inr h)) (fun k h hx => hH.sep 100 910 _ _ (by decide) rfl rfl k hx (.inr h)) (fun k h hx => hH.sep 100 911 _ _ (by decide) rfl rfl k hx (.inr h))) rfl rfl ?_
         rintro _ w ⟨X3, rfl, hX3, hg_⟩; refine ⟨_, rfl, ?_⟩; clear hF; intro a hF; have hH := hH.grew 100 rfl hg_ (fun k hk => hk.elim)
         refine hK _ _ ?_; clear hK K
         rw [(full_send hr (k := 499) (t := 2 * (j : Int)) (by decide)).1] at hF
         have hX3 : BagA 51 58 bb (fullB m 500 (2 * (j : Int))) X3 := by have h_ := hX3; rw [(full_send hr (k := 499) (t := 2 * (j : Int)) (by decide)).2] at h_; exact h_
         refine l_atg hF ((wanted_of hF rfl rfl rfl rfl).trans rfl) rfl rfl (x_eql (hF.tmp 101 rfl) rfl) ?_; clear hF; intro a hF
         refine l_at hF rfl rfl rfl (x_pickT (hF.tmp 98 rfl) rfl (hF.tmp 102 rfl)) ?_; clear hF; intro a hF
         refine l_at hF rfl rfl rfl (x_move (hF.tmp 103 rfl)) ?_; clear hF; intro a hF
         refine l_atg hF ((wanted_of hF rfl rfl rfl rfl).trans rfl) rfl rfl (x_move (hF.tmp 5 rfl)) ?_; clear hF; intro a hF
         refine wpList_on ((wanted_of hF rfl rfl rfl rfl).trans rfl) fun K hK => ?_
         refine w_call hF (x_enter Tryd.func11 (by kernel_rfl) rfl (by simp only [List.map_toArray, List.map_cons, List.map_nil, hF.tmp 105 rfl] <;> rfl)) (blen_calls _ hX3 (hH.okX 100 rfl) (full_ok hr hb (by omega))) rfl rfl ?_
         rintro _ w ⟨rfl, hm_⟩; refine ⟨_, rfl, ?_⟩; clear hF; intro a hF; have hH := hH.same hm_
         refine hK _ _ ?_; clear hK K
         rw [full_len] at hF
         refine l_atg hF ((wanted_of hF rfl rfl rfl rfl).trans rfl) rfl rfl (x_eql (hF.tmp 106 rfl) rfl) ?_; clear hF; intro a hF
         refine l_at hF rfl rfl rfl (x_pickT (hF.tmp 104 rfl) rfl (hF.tmp 107 rfl)) ?_; clear hF; intro a hF
         refine l_at hF rfl rfl rfl (x_assign (hF.tmp 108 rfl)) ?_; clear hF; intro a hF
         refine wpList_nil ?_
         refine hK26 _ _ ?_
         refine wp_ret ?_
         try simp only [Exit.then, Exit.inBlock]
         exact fin_ret hF (res1 (v := .bool true) hF rfl rfl) ⟨rfl, hH.mods⟩
end Go.Proofs.YtfocpadeflpabaaDoor.Act
