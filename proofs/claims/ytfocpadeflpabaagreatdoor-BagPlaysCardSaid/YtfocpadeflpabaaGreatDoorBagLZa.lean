/- The laws of the bag, walked. -/
import Derived.Test.YtfocpadeflpabaaGreatDoorBagAZa
import Derived.Test.YtfocpadeflpabaaGreatDoorMsgCZa
set_option linter.unusedVariables false
set_option maxRecDepth 100000
set_option maxHeartbeats 1000000
set_option linter.unusedSimpArgs false
namespace Go.Proofs.YtfocpadeflpabaaGreatDoor.Act
open Go.RowKit Go.Proofs.YtfocpadeflpabaaGreatDoor.Sx Go.Proofs.YtfocpadeflpabaaGreatDoor.Cod Go.Proofs.YtfocpadeflpabaaGreatDoor.Num
theorem balive_calls (w0 : World) (hL : LibAt true w0) : Calls Tryz.prog 21 #[] w0 fun e w' => e = .returned (.bool true) ∧ Mods (fun _ => False) w0 w' := by
  refine cow Tryz.func21 rfl Tryz.ntmps21 (Nat.le_of_ble_eq_true rfl) fun a F => ?_
  have H := Hp.nil (fun _ => False) w0
  have H := H.libN 990 hL
  refine sr fun _ hK1 => ?_
  refine la F rfl (x_assign rfl) fun a F => ?_
  refine wn (hK1 _ _ ?_)
  refine sr fun _ hK2 => ?_
  refine lp rfl ?_
  refine w_call F (x_enter Tryz.func4 (by kernel_rfl) rfl (by simp only [bM] <;> rfl)) (bnew_calls _) rfl rfl ?_
  rintro _ w ⟨bb, X0, rfl, hX0, hxo_, hm_, hxn_, hxr_⟩; refine ⟨_, rfl, ?_⟩; clear F; intro a F; have H := H.newX 100 hm_ hxo_ hxn_ (fun k hk => (hxr_ k hk).elim)
  refine la F rfl (x_assign (F.t 8 rfl)) fun a F => ?_
  refine wn (hK2 _ _ ?_)
  refine wp_seq_k fun _ hK3 => ?_
  refine sr fun _ hK4 => ?_
  refine la F rfl (x_move (F.t 1 rfl)) fun a F => ?_
  refine la F rfl (x_ptrnil Tryz.underlying23 (F.t 9 rfl) rfl) fun a F => ?_
  refine wn (hK4 _ _ ?_)
  refine wp_cond_false (F.t 10 rfl) ?_
  refine wp_skip ?_
  refine hK3 _ _ ?_
  refine sr fun _ hK5 => ?_
  refine la F rfl (x_move (F.t 1 rfl)) fun a F => ?_
  refine la F rfl (x_buildS (cells := #[.int .i64 2, .int .i64 0, .int .i64 1, .int .i64 5, .slice none 0 0, .slice none 0 0]) (places := #[(0, 1), (1, 1), (2, 1), (3, 1), (4, 1), (5, 1)]) Tryz.underlying34 ty34 (by kernel_rfl) (by simp only [bM] <;> rfl) rfl) fun a F => ?_
  refine lp rfl ?_
  refine w_call F (x_enter Tryz.func6 (by kernel_rfl) rfl (by simp only [bM, F.t 11 rfl, F.t 12 rfl] <;> rfl)) (send_calls (m := msgY) _ (H.holds 990 _ rfl) hX0 (H.okX 100 rfl) bag0_ok (fun k h hx => H.sep 100 990 _ _ (by decide) rfl rfl k hx (.inr h)) (Rd.nil (.int .i64) _ (fun _ => False)) (Rd.nil ChgE _ (fun _ => False)) msgY_B (fun k h => h.elim) (fun k h => h.elim) (fun k h => h.elim) (fun k h => h.elim)) rfl rfl ?_
  rintro _ w ⟨X1, rfl, hX1, hg_⟩; refine ⟨_, rfl, ?_⟩; clear F; intro a F; have H := H.grew 100 rfl hg_ (fun k hk => hk.elim)
  rw [live1] at F
  have hX1 : BagA 54 61 bb bagA1 X1 := hX1
  refine la F rfl (x_assign (F.t 13 rfl)) fun a F => ?_
  refine wn (hK5 _ _ ?_)
  refine sr fun _ hK6 => ?_
  refine la F rfl (x_move (F.t 1 rfl)) fun a F => ?_
  refine lp rfl ?_
  refine w_call F (x_enter Tryz.func11 (by kernel_rfl) rfl (by simp only [bM, F.t 14 rfl] <;> rfl)) (twice_calls _ (H.holds 990 _ rfl) hX1 (H.okX 100 rfl) bagA_ok.1 (fun k h hx => H.sep 100 990 _ _ (by decide) rfl rfl k hx (.inr h)) 0) rfl rfl ?_
  rintro _ w ⟨X2, rfl, hX2, hg_⟩; refine ⟨_, rfl, ?_⟩; clear F; intro a F; have H := H.grew 100 rfl hg_ (fun k hk => hk.elim)
  rw [live2] at F
  have hX2 : BagA 54 61 bb bagA2 X2 := hX2
  refine la F rfl (x_assign (F.t 15 rfl)) fun a F => ?_
  refine wn (hK6 _ _ ?_)
  refine sr fun _ hK7 => ?_
  refine la F rfl (x_move (F.t 1 rfl)) fun a F => ?_
  refine lp rfl ?_
  refine w_call F (x_enter Tryz.func15 (by kernel_rfl) rfl (by simp only [bM, F.t 16 rfl] <;> rfl)) (restart_calls _  hX2 (H.okX 100 rfl) bagA_ok.2.1  1) rfl rfl ?_
  rintro _ w ⟨X3, rfl, hX3, hg_⟩; refine ⟨_, rfl, ?_⟩; clear F; intro a F; have H := H.grew 100 rfl hg_ (fun k hk => hk.elim)
  rw [show rstE 1 = 0 from rfl] at F
  have hX3 : BagA 54 61 bb bagA3 X3 := hX3
  refine la F rfl (x_assign (F.t 17 rfl)) fun a F => ?_
  refine wn (hK7 _ _ ?_)
  refine sr fun _ hK8 => ?_
  refine la F rfl (x_move (F.t 1 rfl)) fun a F => ?_
  refine lp rfl ?_
  refine w_call F (x_enter Tryz.func8 (by kernel_rfl) rfl (by simp only [bM, F.t 19 rfl] <;> rfl)) (take_calls _ (H.holds 990 _ rfl) hX3 (H.okX 100 rfl) bagA_ok.2.2.1 (fun k h hx => H.sep 100 990 _ _ (by decide) rfl rfl k hx (.inr h)) 1) rfl rfl ?_
  rintro _ w ⟨X4, An70, cn70, Ac70, cc70, okm70, rfl, hX4, hg_, ⟨h1_, h2_⟩, hf_, hap_⟩; refine ⟨_, rfl, ?_⟩; clear F; intro a F; have hHo := H; have H := hHo.grew 100 rfl hg_ (fun k hk => hk.elim); have H := H.readNew (w := _) 100 70 (own_old hHo) (fun Y hY => by cases hY; exact hap_) h1_ hf_; have H := H.readNew 100 71 (own_old2 hHo) (fun Y hY => by cases hY; exact hap_) h2_ hf_
  refine la F rfl (x_move (F.t 20 rfl)) fun a F => ?_
  have hX4 : BagA 54 61 bb bagA4 X4 := hX4
  refine la F rfl (x_extract (F.t 18 rfl) rfl) fun a F => ?_
  refine la F rfl (x_extract (F.t 18 rfl) rfl) fun a F => ?_
  refine la F rfl (x_extract (F.t 18 rfl) rfl) fun a F => ?_
  refine lp rfl ?_
  refine w_alloc 5 F H rfl ty34 ?_
  clear F H; intro a w b5 F H
  refine lp rfl ?_
  refine w_storeA 5 H ty34 rfl (F.t 5 rfl) (F.t 21 rfl) rfl (by simp [Value.cells, Value.oneCell']) rfl ?_
  clear H; intro w H
  refine la F rfl (x_assign (F.t 22 rfl)) fun a F => ?_
  refine la F rfl (x_assign (F.t 23 rfl)) fun a F => ?_
  refine wn (hK8 _ _ ?_)
  refine sr fun _ hK9 => ?_
  refine la F rfl (x_move (F.t 2 rfl)) fun a F => ?_
  refine la F rfl (x_eql (F.t 24 rfl) rfl) fun a F => ?_
  refine la F rfl (x_move (F.t 25 rfl)) fun a F => ?_
  refine lg F rfl (x_move (F.t 3 rfl)) fun a F => ?_
  refine lg F rfl (x_eql (F.t 27 rfl) rfl) fun a F => ?_
  refine la F rfl (x_pickT (F.t 26 rfl) rfl (F.t 28 rfl)) fun a F => ?_
  refine la F rfl (x_move (F.t 29 rfl)) fun a F => ?_
  refine lg F rfl (x_move (F.t 4 rfl)) fun a F => ?_
  refine lg F rfl (x_eql (F.t 31 rfl) rfl) fun a F => ?_
  refine la F rfl (x_pickT (F.t 30 rfl) rfl (F.t 32 rfl)) fun a F => ?_
  refine la F rfl (x_move (F.t 33 rfl)) fun a F => ?_
  rw [live3] at F
  refine lg F rfl (x_move (F.t 7 rfl)) fun a F => ?_
  refine lg F rfl (x_eql (F.t 35 rfl) rfl) fun a F => ?_
  refine la F rfl (x_pickT (F.t 34 rfl) rfl (F.t 36 rfl)) fun a F => ?_
  refine la F rfl (x_move (F.t 37 rfl)) fun a F => ?_
  refine lg F rfl (x_faddr Tryz.underlying34 rfl ty3 (by decide) (F.t 5 rfl) rfl) fun a F => ?_
  refine lg F rfl (x_load1 ty3 (F.t 39 rfl) (blk_cell (H.at 5 rfl) 3 rfl)) fun a F => ?_
  rw [live4] at F
  refine lg F rfl (x_eql (F.t 40 rfl) rfl) fun a F => ?_
  refine la F rfl (x_pickT (F.t 38 rfl) rfl (F.t 41 rfl)) fun a F => ?_
  refine la F rfl (x_move (F.t 42 rfl)) fun a F => ?_
  rw [live5] at F
  refine lg F rfl (x_move (F.t 6 rfl)) fun a F => ?_
  refine lg F rfl (x_not (F.t 44 rfl)) fun a F => ?_
  refine la F rfl (x_pickT (F.t 43 rfl) rfl (F.t 45 rfl)) fun a F => ?_
  refine la F rfl (x_move (F.t 46 rfl)) fun a F => ?_
  refine lg F rfl (x_move (F.t 1 rfl)) fun a F => ?_
  refine lpo ((wo F rfl).trans rfl) ?_
  refine w_call F (x_enter Tryz.func17 (by kernel_rfl) rfl (by simp only [bM, F.t 48 rfl] <;> rfl)) (blen_calls _ hX4 (H.okX 100 rfl) bagA_ok.2.2.2) rfl rfl ?_
  rintro _ w ⟨rfl, hm_⟩; refine ⟨_, rfl, ?_⟩; clear F; intro a F; have H := H.same hm_
  rw [live6] at F
  refine lg F rfl (x_eql (F.t 49 rfl) rfl) fun a F => ?_
  refine la F rfl (x_pickT (F.t 47 rfl) rfl (F.t 50 rfl)) fun a F => ?_
  refine la F rfl (x_move (F.t 51 rfl)) fun a F => ?_
  refine lg F rfl (x_move (F.t 1 rfl)) fun a F => ?_
  refine lpo ((wo F rfl).trans rfl) ?_
  refine w_call F (x_enter Tryz.func20 (by kernel_rfl) rfl (by simp only [bM, F.t 53 rfl] <;> rfl)) (epoch_calls _ hX4 (H.okX 100 rfl) bagA_ok.2.2.2 1) rfl rfl ?_
  rintro _ w ⟨rfl, hm_⟩; refine ⟨_, rfl, ?_⟩; clear F; intro a F; have H := H.same hm_
  rw [live7] at F
  refine lg F rfl (x_eql (F.t 54 rfl) rfl) fun a F => ?_
  refine la F rfl (x_pickT (F.t 52 rfl) rfl (F.t 55 rfl)) fun a F => ?_
  refine la F rfl (x_assign (F.t 56 rfl)) fun a F => ?_
  refine wn (hK9 _ _ ?_)
  refine wp_ret ?_
  try simp only [Exit.then, Exit.inBlock]
  exact fin_ret F (res1 (v := .bool true) F rfl rfl) ⟨rfl, H.mods⟩
end Go.Proofs.YtfocpadeflpabaaGreatDoor.Act
