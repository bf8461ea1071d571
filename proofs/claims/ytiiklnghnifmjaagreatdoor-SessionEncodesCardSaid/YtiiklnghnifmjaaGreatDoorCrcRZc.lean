/- The document's sum, walked. -/
import Derived.Test.YtiiklnghnifmjaaGreatDoorCrcMZc
import Derived.Test.YtiiklnghnifmjaaGreatDoorProg
set_option linter.unusedVariables false
set_option maxRecDepth 100000
set_option maxHeartbeats 1000000
set_option linter.unusedSimpArgs false
namespace Go.Proofs.YtiiklnghnifmjaaGreatDoor.Crc
open Go.RowKit Go.Proofs.YtiiklnghnifmjaaGreatDoor.Sx
theorem ty5 : TyI Tryz.prog 5 (.int .u8 0) 1 1 false := ⟨by kernel_rfl, _, Tryz.underlying5, rfl⟩
theorem refMore_calls (w0 : World) (s : B32) {ok : Nat → Prop} {A : Option Addr} {xs : List Int} {c : Nat} (hr : Rd (.int .u8) w0 ok A xs c) : Calls Tryz.prog 71 #[.int .u32 ((s).toNat : Int), .slice A xs.length c] w0 fun e w' => e = .returned (.int .u32 ((moreB s (xs.map bv)).toNat : Int)) ∧ Mods (fun _ => False) w0 w' := by
 refine cow Tryz.func71 rfl Tryz.ntmps71 (Nat.le_of_ble_eq_true rfl) fun a F => ?_
 have H := Hp.nil (fun _ => False) w0
 have H := H.arg 901 hr.all (fun _ h => ⟨h, fun h => h⟩)
 have hle := hr.le; unfold maxLen at hle
 refine sr fun _ hK1 => la F rfl (x_assign rfl) fun a F => wn (hK1 _ _ (sr fun _ hK2 => la F rfl (x_move (F.t 0 rfl)) fun a F => la F rfl (x_bits (by simp) (F.t 9 rfl) rfl (xorF s)) fun a F => la F rfl (x_assign (F.t 10 rfl)) fun a F => wn (hK2 _ _ ?_)))
 refine wp_seq_k fun _ hK3 => ?_
 refine sr fun _ hK4 => la F rfl (x_assign rfl) fun a F => wn (hK4 _ _ (wp_block ?_))
 refine wp_loop_ghost (fun n_ a w => ∃ i : Nat, n_ = xs.length - i ∧ (i ≤ xs.length) ∧ Fr 38 a [(1, .slice A xs.length c), (5, .int .u32 ((((xs.take i).map bv).foldl byteB (~~~ s)).toNat : Int)), (6, .int .i64 (i : Int))] ∧ Hp (fun _ => False) w0 w [(901, .rd_ (.int .u8) A xs c (fun k => k < w0.heap.size))]) (xs.length) ?_ ?_
 ·exact ⟨0, rfl, by omega, (((F.bare.add F 6 rfl).add F 5 rfl).add F 1 rfl), H.sub _ (sub_cons (sub_nil _) 901 rfl)⟩
 rintro _ a w ⟨i, rfl, hq0_0, F, H⟩
 refine wp_seq_k fun _ hK5 => ?_
 refine sr fun _ hK6 => la F rfl (x_move (F.t 6 rfl)) fun a F => la F rfl (x_move (F.t 1 rfl)) fun a F => la F rfl (x_len_slice Tryz.underlying27 (F.t 12 rfl)) fun a F => la F rfl (x_lss (F.t 11 rfl) (F.t 13 rfl)) fun a F => wn (hK6 _ _ ?_)
 refine wp_cond_split (F.t 14 rfl) (fun hc14 => ?_) (fun hc14 => ?_)
 ·have hk14_1 := hc14; try simp only [bL] at hc14
  refine wp_skip (hK5 _ _ ?_)
  refine wp_seq_k fun _ hK7 => ?_
  refine wp_block (sr fun _ hK8 => la F rfl (x_move (F.t 5 rfl)) fun a F => la F rfl (x_move (F.t 1 rfl)) fun a F => la F rfl (x_move (F.t 6 rfl)) fun a F => la F rfl (x_iaddr_A Tryz.underlying27 ty5 ((H.rd 901 rfl)) (F.t 18 rfl) (F.t 19 rfl) (by omega) (by omega) _) fun a F => la F rfl (x_load1 ty5 (F.t 20 rfl) (((H.rd 901 rfl)).cellA (gi_some (i := (i : Int)) (by omega) (by omega)))) fun a F => la F rfl (x_conv Tryz.underlying69 ⟨_, Tryz.underlying5⟩ (F.t 21 rfl) (wrap_bv _)) fun a F => ?_)
  refine la F rfl (x_bits (by simp) (F.t 17 rfl) (F.t 22 rfl) (bxor _ _)) fun a F => la F rfl (x_assign (F.t 23 rfl)) fun a F => wn (hK8 _ _ (sr fun _ hK9 => la F rfl (x_assign rfl) fun a F => wn (hK9 _ _ (wp_block ?_))))
  refine wp_loop_ghost (fun n_ a w => ∃ j : Nat, n_ = 8 - j ∧ (j ≤ 8) ∧ Fr 38 a [(1, .slice A xs.length c), (5, .int .u32 ((stpB j ((((xs.take i).map bv).foldl byteB (~~~ s)) ^^^ bv (gi xs i))).toNat : Int)), (6, .int .i64 (i : Int)), (7, .int .i64 (j : Int))] ∧ Hp (fun _ => False) w0 w [(901, .rd_ (.int .u8) A xs c (fun k => k < w0.heap.size))]) (8) ?_ ?_
  ·exact ⟨0, rfl, by omega, ((((F.bare.add F 7 rfl).add F 6 rfl).add F 5 rfl).add F 1 rfl), H.sub _ (sub_cons (sub_nil _) 901 rfl)⟩
  rintro _ a w ⟨j, rfl, hq2_0, F, H⟩
  refine wp_seq_k fun _ hK10 => ?_
  refine sr fun _ hK11 => la F rfl (x_move (F.t 7 rfl)) fun a F => la F rfl (x_lss (F.t 24 rfl) rfl) fun a F => wn (hK11 _ _ ?_)
  refine wp_cond_split (F.t 25 rfl) (fun hc25 => ?_) (fun hc25 => ?_)
  ·have hk25_2 := hc25; try simp only [bL] at hc25
   refine wp_skip (hK10 _ _ ?_)
   refine wp_seq_k fun _ hK12 => ?_
   refine wp_block (sr fun _ hK13 => la F rfl (x_move (F.t 5 rfl)) fun a F => la F rfl (x_rem (F.t 28 rfl) rfl (by decide) (low_rem _)) fun a F => la F rfl (x_assign (F.t 29 rfl)) fun a F => wn (hK13 _ _ (sr fun _ hK14 => la F rfl (x_move (F.t 5 rfl)) fun a F => ?_)))
   refine la F rfl (x_quo (F.t 30 rfl) rfl (by decide) (quo2 _)) fun a F => la F rfl (x_assign (F.t 31 rfl)) fun a F => wn (hK14 _ _ (sr fun _ hK15 => la F rfl (x_move (F.t 8 rfl)) fun a F => la F rfl (x_eql (F.t 32 rfl) rfl) fun a F => wn (hK15 _ _ ?_)))
   refine wp_norm_k fun khK16 hK16 => ?_
   have hJ33 : ∀ a w, Fr 38 a [(1, .slice A xs.length c), (5, .int .u32 ((stpB (j + 1) ((((xs.take i).map bv).foldl byteB (~~~ s)) ^^^ bv (gi xs i))).toNat : Int)), (6, .int .i64 (i : Int)), (7, .int .i64 (j : Int))] → Hp (fun _ => False) w0 w [(901, .rd_ (.int .u8) A xs c (fun k => k < w0.heap.size))] → khK16 a w := by
    intro a w  F H
    refine hK16 a w ?_
    refine hK12 _ _ ?_
    refine wp_region_lit ?_
    refine la F rfl (x_move (F.t 7 rfl)) fun a F => la F rfl (x_add (F.t 26 rfl) rfl (w64 (by omega) (by omega))) fun a F => la F rfl (x_assign (F.t 27 rfl)) fun a F => ?_
    refine wpList_nil ?_
    exact ⟨_, by omega, ⟨j + 1, rfl, by omega, ((((F.bare.add F 7 rfl).add F 6 rfl).add F 5 rfl).add F 1 rfl), H.sub _ (sub_cons (sub_nil _) 901 rfl)⟩⟩
   refine wp_cond_split (F.t 33 rfl) (fun hc33 => ?_) (fun hc33 => ?_)
   ·have hk33_3 := hc33; try simp only [bL] at hc33
    refine wp_region_lit ?_
    refine la F rfl (x_move (F.t 5 rfl)) fun a F => la F rfl (x_bits (by simp) (F.t 34 rfl) rfl (ref_odd _ hc33)) fun a F => la F rfl (x_assign (F.t 35 rfl)) fun a F => ?_
    refine wpList_nil ?_
    exact hJ33 _ _  ((((F.bare.add F 7 rfl).add F 6 rfl).add F 5 rfl).add F 1 rfl) (H.sub _ (sub_cons (sub_nil _) 901 rfl))
   have hk33_4 := hc33; try simp only [bL] at hc33
   rw [ref_even _ hc33] at F
   refine wp_skip ?_
   exact hJ33 _ _  ((((F.bare.add F 7 rfl).add F 6 rfl).add F 5 rfl).add F 1 rfl) (H.sub _ (sub_cons (sub_nil _) 901 rfl))
  have hk25_5 := hc25; try simp only [bL] at hc25
  obtain rfl : j = 8 := by omega
  refine wp_exit ?_
  refine hK7 _ _ ?_
  refine wp_region_lit ?_
  refine la F rfl (x_move (F.t 6 rfl)) fun a F => la F rfl (x_add (F.t 15 rfl) rfl (w64 (by omega) (by omega))) fun a F => la F rfl (x_assign (F.t 16 rfl)) fun a F => ?_
  refine wpList_nil ?_
  have hFs : Fr 38 a [(1, .slice A xs.length c), (5, .int .u32 ((stpB 8 ((((xs.take i).map bv).foldl byteB (~~~ s)) ^^^ bv (gi xs i))).toNat : Int)), (6, .int .i64 ((i + 1 : Nat) : Int))] := (((F.bare.add F 6 rfl).add F 5 rfl).add F 1 rfl)
  rw [foldB_step hc14] at hFs
  exact ⟨_, by omega, ⟨i + 1, rfl, by omega, hFs, H.sub _ (sub_cons (sub_nil _) 901 rfl)⟩⟩
 have hk14_6 := hc14; try simp only [bL] at hc14
 obtain rfl : i = xs.length := by omega
 rw [List.take_length] at F
 refine wp_exit ?_
 refine hK3 _ _ (sr fun _ hK17 => la F rfl (x_move (F.t 5 rfl)) fun a F => la F rfl (x_bits (by simp) (F.t 36 rfl) rfl (xorF _)) fun a F => la F rfl (x_assign (F.t 37 rfl)) fun a F => wn (hK17 _ _ ?_))
 refine wp_ret ?_
 try simp only [Exit.then, Exit.inBlock]
 exact fin_ret F (res1 F rfl rfl) ⟨rfl, H.mods⟩
theorem refSum_calls (w0 : World) {ok : Nat → Prop} {A : Option Addr} {xs : List Int} {c : Nat} (hr : Rd (.int .u8) w0 ok A xs c) : Calls Tryz.prog 35 #[.slice A xs.length c] w0 fun e w' => e = .returned (.int .u32 ((moreB 0#32 (xs.map bv)).toNat : Int)) ∧ Mods (fun _ => False) w0 w' := by
 refine cow Tryz.func35 rfl Tryz.ntmps35 (Nat.le_of_ble_eq_true rfl) fun a F => ?_
 have H := Hp.nil (fun _ => False) w0
 have H := H.arg 901 hr.all (fun _ h => ⟨h, fun h => h⟩)
 refine sr fun _ hK1 => la F rfl (x_assign rfl) fun a F => wn (hK1 _ _ (sr fun _ hK2 => la F rfl (x_move (F.t 0 rfl)) fun a F => ?_))
 refine lp rfl ?_
 refine w_call F (x_enter Tryz.func71 (by kernel_rfl) rfl (by simp only [bM, F.t 3 rfl] <;> rfl)) (refMore_calls _ (0#32) (H.rd 901 rfl)) rfl rfl ?_
 rintro _ w ⟨rfl, hm_⟩; refine ⟨_, rfl, ?_⟩; clear F; intro a F; have H := H.same hm_
 refine la F rfl (x_assign (F.t 4 rfl)) fun a F => wn (hK2 _ _ ?_)
 refine wp_ret ?_
 try simp only [Exit.then, Exit.inBlock]
 exact fin_ret F (res1 F rfl rfl) ⟨rfl, H.mods⟩
theorem refSumI_calls (w0 : World) {ok : Nat → Prop} {A : Option Addr} {xs : List Int} {c : Nat} (hr : Rd (.int .u8) w0 ok A xs c) : Calls Tryz.prog 35 #[.slice A xs.length c] w0 fun e w' => e = .returned (.int .u32 (moreI 0 xs)) ∧ Mods (fun _ => False) w0 w' := by
 have h := refSum_calls w0 hr
 rw [← more_B, show ((0#32 : B32).toNat : Int) = 0 by decide] at h
 exact h
end Go.Proofs.YtiiklnghnifmjaaGreatDoor.Crc
