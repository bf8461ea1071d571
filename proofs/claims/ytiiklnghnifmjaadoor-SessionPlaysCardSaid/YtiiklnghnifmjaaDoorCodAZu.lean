/- The walks of codec. -/
import Derived.Test.YtiiklnghnifmjaaDoorCodEZu
import Derived.Test.YtiiklnghnifmjaaDoorProg
set_option linter.unusedVariables false
set_option linter.unusedSimpArgs false
namespace Go.Proofs.YtiiklnghnifmjaaDoor.Cod
open Go.RowKit Go.Proofs.YtiiklnghnifmjaaDoor.Sx
theorem ty3 : TyI Tryd.prog 3 (.int .i64 0) 1 8 false := ⟨by kernel_rfl, _, Tryd.underlying3, rfl⟩
theorem ty5 : TyI Tryd.prog 5 (.int .u8 0) 1 1 false := ⟨by kernel_rfl, _, Tryd.underlying5, rfl⟩
theorem ty28 : TyI Tryd.prog 28 (.slice none 0 0) 1 24 false := ⟨by kernel_rfl, _, Tryd.underlying28, rfl⟩
theorem ty99 : TyI Tryd.prog 99 (.agg #[.int .i64 0, .slice none 0 0]) 2 32 true := ⟨by kernel_rfl, _, Tryd.underlying99, rfl⟩
set_option maxRecDepth 100000 in
set_option maxHeartbeats 1000000 in
theorem enc_calls (w0 : World) {ok : Nat → Prop} {A : Option Addr} {xs : List Fld} {c : Nat} (hr : Rd FE w0 ok A xs c) : Calls Tryd.prog 42 #[.slice A xs.length c] w0 fun e w' => ∃ v, e = .returned (.tuple #[v, .int .i64 (if (encR xs).isSome then 0 else 11)]) ∧ Mods (fun _ => False) w0 w' ∧ RowOut (.int .u8) 5 w0 w' v ((encR xs).getD []) := by
 refine calls_of_wp Tryd.func42 rfl ?_
 have hF := Fr.enter #[.slice A xs.length c] 48 (slotsOf [.slice A xs.length c] 0) (Nat.le_of_ble_eq_true rfl) (fun i v h => by have h2 := (get_slotsOf _ 0 i v h).2; simpa only [List.getElem?_toArray, Nat.sub_zero] using h2)
 have hH := Hp.nil (fun _ => False) w0
 rw [Tryd.ntmps42]
 revert hF; generalize (⟨(#[.slice A xs.length c] : Array Value) ++ Array.replicate (48 - (#[.slice A xs.length c] : Array Value).size) undef, []⟩ : Act) = a; intro hF
 have hH := hH.arg 901 hr.all (fun _ h => ⟨h, fun h => h⟩)
 have hle901 := hr.le; unfold maxLen at hle901
 refine wp_seq_k fun khK1 hK1 => ?_
 refine wp_region_lit ?_
 refine l_at hF rfl rfl rfl (x_assign rfl) ?_; clear hF; intro a hF
 refine l_at hF rfl rfl rfl (x_assign rfl) ?_; clear hF; intro a hF
 refine wpList_nil ?_
 refine hK1 _ _ ?_
 refine wp_seq_k fun khK2 hK2 => ?_
 refine wp_seq_k fun khK3 hK3 => ?_
 refine wp_region_lit ?_
 refine l_at hF rfl rfl rfl (x_move (hF.tmp 0 rfl)) ?_; clear hF; intro a hF
 refine l_at hF rfl rfl rfl (x_len_slice Tryd.underlying100 (hF.tmp 8 rfl)) ?_; clear hF; intro a hF
 refine l_at hF rfl rfl rfl (x_gtr (hF.tmp 9 rfl) rfl) ?_; clear hF; intro a hF
 refine wpList_nil ?_
 refine hK3 _ _ ?_
 refine wp_cond_split (hF.tmp 10 rfl) (fun hc10 => ?_) (fun hc10 => ?_)
 ·have hk10_1 := hc10; try simp only [Bool.or_eq_true, Bool.and_eq_true, Bool.or_eq_false_iff, Bool.and_eq_false_iff, Bool.not_eq_true', Bool.not_eq_false', decide_eq_true_eq, decide_eq_false_iff_not, Bool.not_true, Bool.not_false] at hc10
  have hnone := encR_many hc10
  refine wp_seq_k fun khK4 hK4 => ?_
  refine wp_region_lit ?_
  refine l_at hF rfl rfl rfl (x_assign rfl) ?_; clear hF; intro a hF
  refine l_at hF rfl rfl rfl (x_assign rfl) ?_; clear hF; intro a hF
  refine wpList_nil ?_
  refine hK4 _ _ ?_
  refine wp_ret ?_
  try simp only [Exit.then, Exit.inBlock]
  exact fin_ret hF (res2 hF rfl rfl rfl) ⟨.slice none 0 0, by rw [hnone]; rfl, hH.mods, by rw [hnone]; exact RowOut.nil _ _ _ _⟩
 ·have hk10_2 := hc10; try simp only [Bool.or_eq_true, Bool.and_eq_true, Bool.or_eq_false_iff, Bool.and_eq_false_iff, Bool.not_eq_true', Bool.not_eq_false', decide_eq_true_eq, decide_eq_false_iff_not, Bool.not_true, Bool.not_false] at hc10
  refine wp_skip ?_
  refine hK2 _ _ ?_
  refine wp_seq_k fun khK5 hK5 => ?_
  refine wp_region_lit ?_
  refine l_at hF rfl rfl rfl (x_assign rfl) ?_; clear hF; intro a hF
  have hH := hH.row0 4 (.int .u8) 5
  refine wpList_nil ?_
  refine hK5 _ _ ?_
  refine wp_seq_k fun khK6 hK6 => ?_
  refine wp_seq_k fun khK7 hK7 => ?_
  refine wp_region_lit ?_
  refine l_at hF rfl rfl rfl (x_move (hF.tmp 0 rfl)) ?_; clear hF; intro a hF
  refine l_at hF rfl rfl rfl (x_len_slice Tryd.underlying100 (hF.tmp 11 rfl)) ?_; clear hF; intro a hF
  refine l_at hF rfl rfl rfl (x_move rfl) ?_; clear hF; intro a hF
  refine wpList_nil ?_
  refine hK7 _ _ ?_
  refine wp_block ?_
  refine wp_loop_ghost (fun n_ a w => ∃ k : Nat, ∃ v4 : Value, n_ = xs.length - k ∧ (k ≤ xs.length) ∧ ((xs.take k).all okF = true) ∧ ((encI (xs.take k)).length ≤ 2003 * k) ∧ Fr 48 a [(4, v4), (11, .slice A xs.length c), (12, .int .i64 (xs.length : Int)), (13, .int .i64 (k : Int))] ∧ Hp (fun _ => False) w0 w [(901, .rd_ FE A xs c (fun k => k < w0.heap.size)), (4, .row (.int .u8) 5 v4 (encI (xs.take k)) (fun _ => False))]) (xs.length) ?_ ?_
  ·exact ⟨0, .slice none 0 0, rfl, by omega, rfl, by simp [encI], ((((hF.bare.add hF 13 rfl).add hF 12 rfl).add hF 11 rfl).add hF 4 rfl), hH.sub _ (sub_cons (sub_cons (sub_nil _) 4 rfl) 901 rfl)⟩
  ·rintro _ a w ⟨k, v4, rfl, hq0_0, hq0_1, hq0_2, hF, hH⟩
   refine wp_seq_k fun khK8 hK8 => ?_
   refine wp_region_lit ?_
   refine l_at hF rfl rfl rfl (x_lss (hF.tmp 13 rfl) (hF.tmp 12 rfl)) ?_; clear hF; intro a hF
   refine wpList_nil ?_
   refine hK8 _ _ ?_
   refine wp_seq_k fun khK9 hK9 => ?_
   refine wp_cond_split (hF.tmp 14 rfl) (fun hc14 => ?_) (fun hc14 => ?_)
   ·have hk14_3 := hc14; try simp only [Bool.or_eq_true, Bool.and_eq_true, Bool.or_eq_false_iff, Bool.and_eq_false_iff, Bool.not_eq_true', Bool.not_eq_false', decide_eq_true_eq, decide_eq_false_iff_not, Bool.not_true, Bool.not_false] at hc14
    refine wp_skip ?_
    refine hK9 _ _ ?_
    refine wp_seq_k fun khK10 hK10 => ?_
    refine wp_block ?_
    refine wp_seq_k fun khK11 hK11 => ?_
    refine wp_region_lit ?_
    obtain ⟨fA1, fc1, hfr1, hf1_0, hf1_1, hfw1⟩ := Rd.fld ((hH.rd 901 rfl)) (gf_some (xs := xs) (i := (k : Int)) (by omega) (by omega))
    have hH := hH.subrd 901 rfl 1001 hfr1 (fun _ h => h)
    have hH := hH.subcels 901 rfl 1499 hfw1 (Rd.inok ((hH.rd 901 rfl)) (by omega) _)
    have hH := hH.subcel 901 rfl 1500 hf1_0 (Rd.inok ((hH.rd 901 rfl)) (by omega) _)
    have hH := hH.subcel 901 rfl 1501 hf1_1 (Rd.inok ((hH.rd 901 rfl)) (by omega) _)
    refine l_at hF rfl rfl rfl (x_iaddr_A Tryd.underlying100 ty99 ((hH.rd 901 rfl)) (hF.tmp 11 rfl) (hF.tmp 13 rfl) (by omega) (by omega) _) ?_; clear hF; intro a hF
    refine l_at hF rfl rfl rfl (x_loadn ty99 (hF.tmp 15 rfl) rfl (hH.holds 1499 _ rfl)) ?_; clear hF; intro a hF
    refine wpList_plain rfl fun K hK => ?_
    refine w_alloc 6 hF hH rfl ty99 ?_
    clear hF hH; intro a w b6 hF hH
    refine hK _ _ ?_; clear hK K
    refine wpList_plain rfl fun K hK => ?_
    refine w_storeA 6 hH ty99 rfl (hF.tmp 6 rfl) (hF.tmp 16 rfl) rfl (by simp [Value.cells, Value.oneCell']) rfl ?_
    clear hH; intro w hH
    refine hK _ _ ?_; clear hK K
    refine wpList_nil ?_
    refine hK11 _ _ ?_
    refine wp_seq_k fun khK12 hK12 => ?_
    refine wp_region_lit ?_
    refine l_at hF rfl rfl rfl (x_faddr Tryd.underlying99 rfl ty28 (by decide) (hF.tmp 6 rfl) rfl) ?_; clear hF; intro a hF
    refine l_at hF rfl rfl rfl (x_load1 ty28 (hF.tmp 17 rfl) (blk_cell (hH.at 6 rfl) 1 rfl)) ?_; clear hF; intro a hF
    refine l_at hF rfl rfl rfl (x_len_slice Tryd.underlying28 (hF.tmp 18 rfl)) ?_; clear hF; intro a hF
    refine l_at hF rfl rfl rfl (x_assign (hF.tmp 19 rfl)) ?_; clear hF; intro a hF
    refine wpList_nil ?_
    refine hK12 _ _ ?_
    refine wp_seq_k fun khK13 hK13 => ?_
    refine wp_seq_k fun khK14 hK14 => ?_
    refine wp_region_lit ?_
    refine l_at hF rfl rfl rfl (x_faddr Tryd.underlying99 rfl ty3 (by decide) (hF.tmp 6 rfl) rfl) ?_; clear hF; intro a hF
    refine l_at hF rfl rfl rfl (x_load1 ty3 (hF.tmp 20 rfl) (blk_cell (hH.at 6 rfl) 0 rfl)) ?_; clear hF; intro a hF
    refine l_at hF rfl rfl rfl (x_lss (hF.tmp 21 rfl) rfl) ?_; clear hF; intro a hF
    refine l_at hF rfl rfl rfl (x_move (hF.tmp 22 rfl)) ?_; clear hF; intro a hF
    refine split_bool hF 23 rfl (fun hb23 => ?_) (fun hb23 => ?_)
    ·have hc23 := hb23; try simp only [Bool.or_eq_true, Bool.and_eq_true, Bool.or_eq_false_iff, Bool.and_eq_false_iff, Bool.not_eq_true', Bool.not_eq_false', decide_eq_true_eq, decide_eq_false_iff_not, Bool.not_true, Bool.not_false] at hc23
     have hnone := encR_bad (by omega) (.inl hc23)
     refine l_offg hF ((wanted_of hF rfl rfl rfl rfl).trans (by rw [hb23]; rfl)) rfl rfl ?_; clear hF; intro a hF
     refine l_offg hF ((wanted_of hF rfl rfl rfl rfl).trans (by rw [hb23]; rfl)) rfl rfl ?_; clear hF; intro a hF
     refine l_offg hF ((wanted_of hF rfl rfl rfl rfl).trans (by rw [hb23]; rfl)) rfl rfl ?_; clear hF; intro a hF
     refine l_at hF rfl rfl rfl (x_pickT (hF.tmp 23 rfl) hb23 rfl) ?_; clear hF; intro a hF
     refine l_at hF rfl rfl rfl (x_move (hF.tmp 27 rfl)) ?_; clear hF; intro a hF
     refine l_offg hF ((wanted_of hF rfl rfl rfl rfl).trans rfl) rfl rfl ?_; clear hF; intro a hF
     refine l_offg hF ((wanted_of hF rfl rfl rfl rfl).trans rfl) rfl rfl ?_; clear hF; intro a hF
     refine l_at hF rfl rfl rfl (x_pickT (hF.tmp 28 rfl) rfl rfl) ?_; clear hF; intro a hF
     refine wpList_nil ?_
     refine hK14 _ _ ?_
     refine wp_cond_true (hF.tmp 31 rfl) ?_
     refine wp_seq_k fun khK15 hK15 => ?_
     refine wp_region_lit ?_
     refine l_at hF rfl rfl rfl (x_assign rfl) ?_; clear hF; intro a hF
     refine l_at hF rfl rfl rfl (x_assign rfl) ?_; clear hF; intro a hF
     refine wpList_nil ?_
     refine hK15 _ _ ?_
     refine wp_ret ?_
     try simp only [Exit.then, Exit.inBlock]
     exact fin_ret hF (res2 hF rfl rfl rfl) ⟨.slice none 0 0, by rw [hnone]; rfl, hH.mods, by rw [hnone]; exact RowOut.nil _ _ _ _⟩
    ·have hc23 := hb23; try simp only [Bool.or_eq_true, Bool.and_eq_true, Bool.or_eq_false_iff, Bool.and_eq_false_iff, Bool.not_eq_true', Bool.not_eq_false', decide_eq_true_eq, decide_eq_false_iff_not, Bool.not_true, Bool.not_false] at hc23
     refine l_atg hF ((wanted_of hF rfl rfl rfl rfl).trans (by rw [hb23]; rfl)) rfl rfl (x_faddr Tryd.underlying99 rfl ty3 (by decide) (hF.tmp 6 rfl) rfl) ?_; clear hF; intro a hF
     refine l_atg hF ((wanted_of hF rfl rfl rfl rfl).trans (by rw [hb23]; rfl)) rfl rfl (x_load1 ty3 (hF.tmp 24 rfl) (blk_cell (hH.at 6 rfl) 0 rfl)) ?_; clear hF; intro a hF
     refine l_atg hF ((wanted_of hF rfl rfl rfl rfl).trans (by rw [hb23]; rfl)) rfl rfl (x_gtr (hF.tmp 25 rfl) rfl) ?_; clear hF; intro a hF
     refine l_at hF rfl rfl rfl (x_pickF (hF.tmp 23 rfl) hb23 (hF.tmp 26 rfl)) ?_; clear hF; intro a hF
     refine l_at hF rfl rfl rfl (x_move (hF.tmp 27 rfl)) ?_; clear hF; intro a hF
     refine split_bool hF 28 rfl (fun hb28 => ?_) (fun hb28 => ?_)
     ·have hc28 := hb28; try simp only [Bool.or_eq_true, Bool.and_eq_true, Bool.or_eq_false_iff, Bool.and_eq_false_iff, Bool.not_eq_true', Bool.not_eq_false', decide_eq_true_eq, decide_eq_false_iff_not, Bool.not_true, Bool.not_false] at hc28
      have hnone := encR_bad (by omega) (.inr (.inl hc28))
      refine l_offg hF ((wanted_of hF rfl rfl rfl rfl).trans (by rw [hb28]; rfl)) rfl rfl ?_; clear hF; intro a hF
      refine l_offg hF ((wanted_of hF rfl rfl rfl rfl).trans (by rw [hb28]; rfl)) rfl rfl ?_; clear hF; intro a hF
      refine l_at hF rfl rfl rfl (x_pickT (hF.tmp 28 rfl) hb28 rfl) ?_; clear hF; intro a hF
      refine wpList_nil ?_
      refine hK14 _ _ ?_
      refine wp_cond_true (hF.tmp 31 rfl) ?_
      refine wp_seq_k fun khK16 hK16 => ?_
      refine wp_region_lit ?_
      refine l_at hF rfl rfl rfl (x_assign rfl) ?_; clear hF; intro a hF
      refine l_at hF rfl rfl rfl (x_assign rfl) ?_; clear hF; intro a hF
      refine wpList_nil ?_
      refine hK16 _ _ ?_
      refine wp_ret ?_
      try simp only [Exit.then, Exit.inBlock]
      exact fin_ret hF (res2 hF rfl rfl rfl) ⟨.slice none 0 0, by rw [hnone]; rfl, hH.mods, by rw [hnone]; exact RowOut.nil _ _ _ _⟩
     ·have hc28 := hb28; try simp only [Bool.or_eq_true, Bool.and_eq_true, Bool.or_eq_false_iff, Bool.and_eq_false_iff, Bool.not_eq_true', Bool.not_eq_false', decide_eq_true_eq, decide_eq_false_iff_not, Bool.not_true, Bool.not_false] at hc28
      refine l_atg hF ((wanted_of hF rfl rfl rfl rfl).trans (by rw [hb28]; rfl)) rfl rfl (x_move (hF.tmp 7 rfl)) ?_; clear hF; intro a hF
      refine l_atg hF ((wanted_of hF rfl rfl rfl rfl).trans (by rw [hb28]; rfl)) rfl rfl (x_gtr (hF.tmp 29 rfl) rfl) ?_; clear hF; intro a hF
      refine l_at hF rfl rfl rfl (x_pickF (hF.tmp 28 rfl) hb28 (hF.tmp 30 rfl)) ?_; clear hF; intro a hF
      refine wpList_nil ?_
      refine hK14 _ _ ?_
      refine wp_cond_split (hF.tmp 31 rfl) (fun hc31 => ?_) (fun hc31 => ?_)
      ·have hk31_4 := hc31; try simp only [Bool.or_eq_true, Bool.and_eq_true, Bool.or_eq_false_iff, Bool.and_eq_false_iff, Bool.not_eq_true', Bool.not_eq_false', decide_eq_true_eq, decide_eq_false_iff_not, Bool.not_true, Bool.not_false] at hc31
       have hnone := encR_bad (by omega) (.inr (.inr hc31))
       refine wp_seq_k fun khK17 hK17 => ?_
       refine wp_region_lit ?_
       refine l_at hF rfl rfl rfl (x_assign rfl) ?_; clear hF; intro a hF
       refine l_at hF rfl rfl rfl (x_assign rfl) ?_; clear hF; intro a hF
       refine wpList_nil ?_
       refine hK17 _ _ ?_
       refine wp_ret ?_
       try simp only [Exit.then, Exit.inBlock]
       exact fin_ret hF (res2 hF rfl rfl rfl) ⟨.slice none 0 0, by rw [hnone]; rfl, hH.mods, by rw [hnone]; exact RowOut.nil _ _ _ _⟩
      ·have hk31_5 := hc31; try simp only [Bool.or_eq_true, Bool.and_eq_true, Bool.or_eq_false_iff, Bool.and_eq_false_iff, Bool.not_eq_true', Bool.not_eq_false', decide_eq_true_eq, decide_eq_false_iff_not, Bool.not_true, Bool.not_false] at hc31
       refine wp_skip ?_
       refine hK13 _ _ ?_
       refine r_start [(6, .blk b6 (.cells #[.int .i64 (gf xs (k : Int)).1, .slice fA1 (gf xs (k : Int)).2.length fc1] 99 (0, 0)))] (by kernel_rfl) hH fun hH => ?_
       have hS : SL [(6, .blk b6 (.cells #[.int .i64 (gf xs (k : Int)).1, .slice fA1 (gf xs (k : Int)).2.length fc1] 99 (0, 0)))] _ := SL.of hH (sub_cons (sub_nil _) 6 rfl)
       refine r_take 0 hF rfl rfl rfl (by kernel_rfl) (by kernel_rfl) (by kernel_rfl) (fun _ _ _ h => h) rfl hS (fun w hS => x_move (hF.tmp 4 rfl)) rfl ?_; clear hF; intro a hF
       refine r_take 1 hF rfl rfl rfl (by kernel_rfl) (by kernel_rfl) (by kernel_rfl) (fun _ _ _ h => h) rfl hS (fun w hS => x_faddr Tryd.underlying99 rfl ty3 (by decide) (hF.tmp 6 rfl) rfl) rfl ?_; clear hF; intro a hF
       refine r_take 2 hF rfl rfl rfl (by kernel_rfl) (by kernel_rfl) (by kernel_rfl) (fun _ _ _ h => h) rfl hS (fun w hS => x_load1 ty3 (hF.tmp 33 rfl) (blk_cell (SL.at_ hS 6 rfl) 0 rfl)) rfl ?_; clear hF; intro a hF
       refine r_take 3 hF rfl rfl rfl (by kernel_rfl) (by kernel_rfl) (by kernel_rfl) (fun _ _ _ h => h) rfl hS (fun w hS => x_conv Tryd.underlying5 ⟨_, Tryd.underlying3⟩ (hF.tmp 34 rfl) (wu8 (by omega) (by omega))) rfl ?_; clear hF; intro a hF
       refine r_take 4 hF rfl rfl rfl (by kernel_rfl) (by kernel_rfl) (by kernel_rfl) (fun _ _ _ h => h) rfl hS (fun w hS => x_move (hF.tmp 7 rfl)) rfl ?_; clear hF; intro a hF
       refine r_take 5 hF rfl rfl rfl (by kernel_rfl) (by kernel_rfl) (by kernel_rfl) (fun _ _ _ h => h) rfl hS (fun w hS => x_shr (hF.tmp 36 rfl) rfl (by omega) (shr8 _)) rfl ?_; clear hF; intro a hF
       refine r_take 6 hF rfl rfl rfl (by kernel_rfl) (by kernel_rfl) (by kernel_rfl) (fun _ _ _ h => h) rfl hS (fun w hS => x_conv Tryd.underlying5 ⟨_, Tryd.underlying3⟩ (hF.tmp 37 rfl) (wu8 (by omega) (by omega))) rfl ?_; clear hF; intro a hF
       refine r_take 7 hF rfl rfl rfl (by kernel_rfl) (by kernel_rfl) (by kernel_rfl) (fun _ _ _ h => h) rfl hS (fun w hS => x_move (hF.tmp 7 rfl)) rfl ?_; clear hF; intro a hF
       refine r_take 8 hF rfl rfl rfl (by kernel_rfl) (by kernel_rfl) (by kernel_rfl) (fun _ _ _ h => h) rfl hS (fun w hS => x_conv Tryd.underlying5 ⟨_, Tryd.underlying3⟩ (hF.tmp 39 rfl) (IntKind.wrap_u8 _)) rfl ?_; clear hF; intro a hF
       refine r_take 11 hF rfl rfl rfl (by kernel_rfl) (by kernel_rfl) (by kernel_rfl) (fun _ _ _ h => h) rfl hS (fun w hS => x_faddr Tryd.underlying99 rfl ty28 (by decide) (hF.tmp 6 rfl) rfl) rfl ?_; clear hF; intro a hF
       refine r_take 12 hF rfl rfl rfl (by kernel_rfl) (by kernel_rfl) (by kernel_rfl) (fun _ _ _ h => h) rfl hS (fun w hS => x_load1 ty28 (hF.tmp 43 rfl) (blk_cell (SL.at_ hS 6 rfl) 1 rfl)) rfl ?_; clear hF; intro a hF
       refine r_do 9 rfl (by kernel_rfl) rfl rfl ?_
       refine w_lit 41 (enc := Value.int .u8) (h1 := fun _ => rfl) ([(gf xs (k : Int)).1, ((gf xs (k : Int)).2.length : Int) / 256, ((gf xs (k : Int)).2.length : Int) % 256]) hF hH rfl Tryd.underlying28 ty5 (by simp only [List.map_toArray, List.map_cons, List.map_nil, hF.tmp 35 rfl, hF.tmp 38 rfl, hF.tmp 40 rfl]; rfl) rfl (by decide) (by decide) (by kernel_rfl) ?_
       clear hF hH; intro a w b41 hF hH
       clear hS; have hS : SL _ _ := SL.of hH (sub_cons (sub_nil _) 6 rfl); refine ⟨hS, ?_⟩
       refine r_do 10 rfl (by kernel_rfl) rfl rfl ?_
       refine w_append 4 41 (xs := (encI (xs.take k))) (ys := ([(gf xs (k : Int)).1, ((gf xs (k : Int)).2.length : Int) / 256, ((gf xs (k : Int)).2.length : Int) % 256])) hF hH rfl Tryd.underlying28 ty5 rfl rfl rfl rfl (Row.rd (ok' := fun k_ => (fun _ => False) k_ ∨ (.slice (some ⟨b41, 0, none⟩) ([(gf xs (k : Int)).1, ((gf xs (k : Int)).2.length : Int) / 256, ((gf xs (k : Int)).2.length : Int) % 256]).length ([(gf xs (k : Int)).1, ((gf xs (k : Int)).2.length : Int) / 256, ((gf xs (k : Int)).2.length : Int) % 256]).length : Value).ownBlock = some k_) (hH.row 41 rfl) (fun _ hk_ _ => .inl hk_) (fun _ hk_ => .inr hk_)) (by rintro k_ (hk_ | hk_); exact .inr hk_; exact .inl hk_) (hF.tmp 32 rfl) (hF.tmp 41 rfl) (by simp only [List.length_cons, List.length_nil] at *; omega) (by simp only [List.length_cons, List.length_nil, maxLen] at *; omega) (fun _ => False) (fun w' v' h => row_flat h _) (fun k_ hk_ => hk_.elim) ?_
       clear hF hH; intro a w v42 hF hH
       clear hS; have hS : SL _ _ := SL.of hH (sub_cons (sub_nil _) 6 rfl); refine ⟨hS, ?_⟩
       refine r_do 13 rfl (by kernel_rfl) rfl rfl ?_
       refine w_append 4 1001 (xs := ((encI (xs.take k)) ++ ([(gf xs (k : Int)).1, ((gf xs (k : Int)).2.length : Int) / 256, ((gf xs (k : Int)).2.length : Int) % 256]))) (ys := ((gf xs (k : Int)).2)) hF hH rfl Tryd.underlying28 ty5 rfl rfl rfl rfl ((hH.rd 1001 rfl)) (by intro k_ hk_; exact .inr hk_) (hF.tmp 42 rfl) (hF.tmp 44 rfl) (by simp only [List.length_append, List.length_cons, List.length_nil] at *; omega) (by simp only [List.length_append, List.length_cons, List.length_nil, maxLen] at *; omega) (fun _ => False) (fun w' v' h => row_flat h _) (fun k_ hk_ => hk_.elim) ?_
       clear hF hH; intro a w v45 hF hH
       clear hS; have hS : SL _ _ := SL.of hH (sub_cons (sub_nil _) 6 rfl); refine ⟨hS, ?_⟩
       refine r_take 14 hF rfl rfl rfl (by kernel_rfl) (by kernel_rfl) (by kernel_rfl) (fun _ _ _ h => h) rfl hS (fun w hS => x_assign (hF.tmp 45 rfl)) rfl ?_; clear hF; intro a hF
       refine r_end (by kernel_rfl) ?_; clear hS
       refine hK10 _ _ ?_
       refine wp_region_lit ?_
       refine l_at hF rfl rfl rfl (x_add (hF.tmp 13 rfl) rfl (w64 (by omega) (by omega))) ?_; clear hF; intro a hF
       refine l_at hF rfl rfl rfl (x_move (hF.tmp 46 rfl)) ?_; clear hF; intro a hF
       refine wpList_nil ?_
       have hHs : Hp (fun _ => False) w0 w [(901, .rd_ FE A xs c (fun k => k < w0.heap.size)), (4, .row (.int .u8) 5 v45 ((encI (xs.take k) ++ [(gf xs (k : Int)).1, ((gf xs (k : Int)).2.length : Int) / 256, ((gf xs (k : Int)).2.length : Int) % 256]) ++ (gf xs (k : Int)).2) (fun _ => False))] := hH.sub _ (sub_cons (sub_cons (sub_nil _) 4 rfl) 901 rfl)
       rw [encI_step hc14] at hHs
       exact ⟨_, by omega, ⟨k + 1, v45, rfl, by omega, all_step hc14 hq0_1 hc23 hc28 hc31, len_step hc14 hq0_2 hc31, ((((hF.bare.add hF 13 rfl).add hF 12 rfl).add hF 11 rfl).add hF 4 rfl), hHs⟩⟩
   ·have hk14_6 := hc14; try simp only [Bool.or_eq_true, Bool.and_eq_true, Bool.or_eq_false_iff, Bool.and_eq_false_iff, Bool.not_eq_true', Bool.not_eq_false', decide_eq_true_eq, decide_eq_false_iff_not, Bool.not_true, Bool.not_false] at hc14
    obtain rfl : k = xs.length := by omega
    rw [List.take_length] at hq0_1
    have hsome := encR_all hc10 hq0_1
    refine wp_exit ?_
    refine hK6 _ _ ?_
    refine wp_seq_k fun khK18 hK18 => ?_
    refine wp_region_lit ?_
    refine l_at hF rfl rfl rfl (x_move (hF.tmp 4 rfl)) ?_; clear hF; intro a hF
    refine l_at hF rfl rfl rfl (x_assign (hF.tmp 47 rfl)) ?_; clear hF; intro a hF
    refine l_at hF rfl rfl rfl (x_assign rfl) ?_; clear hF; intro a hF
    refine wpList_nil ?_
    refine hK18 _ _ ?_
    refine wp_ret ?_
    try simp only [Exit.then, Exit.inBlock]
    rw [List.take_length] at hH
    exact fin_ret hF (res2 hF rfl rfl rfl) ⟨_, by rw [hsome]; rfl, hH.mods, by rw [hsome]; exact Hp.out hH 4 rfl⟩
theorem enc_at {w0 : World} {ok : Nat → Prop} {A : Option Addr} {xs : List Fld} {c : Nat} (hr : Rd FE w0 ok A xs c) {ys : List Int} (h : encR xs = some ys) : Calls Tryd.prog 42 #[.slice A xs.length c] w0 fun e w' => ∃ v, e = .returned (.tuple #[v, .int .i64 0]) ∧ Mods (fun _ => False) w0 w' ∧ RowOut (.int .u8) 5 w0 w' v ys := by
 have := enc_calls w0 hr
 rw [h] at this
 exact this
def lit8 : ByteArray := ⟨#[0, 1, 2, 2, 3, 3, 3, 3, 4, 4, 4, 4, 4, 4, 4, 4, 5, 5, 5, 5, 5, 5, 5, 5, 5, 5, 5, 5, 5, 5, 5, 5, 6, 6, 6, 6, 6, 6, 6, 6, 6, 6, 6, 6, 6, 6, 6, 6, 6, 6, 6, 6, 6, 6, 6, 6, 6, 6, 6, 6, 6, 6, 6, 6, 7, 7, 7, 7, 7, 7, 7, 7, 7, 7, 7, 7, 7, 7, 7, 7, 7, 7, 7, 7, 7, 7, 7, 7, 7, 7, 7, 7, 7, 7, 7, 7, 7, 7, 7, 7, 7, 7, 7, 7, 7, 7, 7, 7, 7, 7, 7, 7, 7, 7, 7, 7, 7, 7, 7, 7, 7, 7, 7, 7, 7, 7, 7, 7, 8, 8, 8, 8, 8, 8, 8, 8, 8, 8, 8, 8, 8, 8, 8, 8, 8, 8, 8, 8, 8, 8, 8, 8, 8, 8, 8, 8, 8, 8, 8, 8, 8, 8, 8, 8, 8, 8, 8, 8, 8, 8, 8, 8, 8, 8, 8, 8, 8, 8, 8, 8, 8, 8, 8, 8, 8, 8, 8, 8, 8, 8, 8, 8, 8, 8, 8, 8, 8, 8, 8, 8, 8, 8, 8, 8, 8, 8, 8, 8, 8, 8, 8, 8, 8, 8, 8, 8, 8, 8, 8, 8, 8, 8, 8, 8, 8, 8, 8, 8, 8, 8, 8, 8, 8, 8, 8, 8, 8, 8, 8, 8, 8, 8, 8, 8, 8, 8, 8, 8, 8, 8, 8, 8, 8, 8, 8, 8]⟩
theorem lit8_le : 256 ≤ lit8.size := by decide +kernel
theorem lit8_all : ∀ m : Fin 256, (lit8[m.val]'(Nat.lt_of_lt_of_le m.isLt lit8_le)).toNat = lenT m.val := by decide +kernel
theorem lit8_at {n : Nat} (h : n < 256) : ∃ u : UInt8, lit8[n]? = some u ∧ u.toNat = lenT n :=
 ⟨lit8[n]'(Nat.lt_of_lt_of_le h lit8_le), getElem?_pos lit8 n _, lit8_all ⟨n, h⟩⟩
set_option maxRecDepth 100000 in
set_option maxHeartbeats 1000000 in
theorem len_calls (w0 : World) (n : Nat) (hn : n < 18446744073709551616) : Calls Tryd.prog 44 #[.int .u64 (n : Int)] w0 fun e w' => ∃ l : Nat, e = .returned (.int .i64 (l : Int)) ∧ l ≤ 64 ∧ (l + 7) / 8 = nb n ∧ Mods (fun _ => False) w0 w' := by
 refine calls_of_wp Tryd.func44 rfl ?_
 have hF := Fr.enter #[.int .u64 (n : Int)] 25 (slotsOf [.int .u64 (n : Int)] 0) (Nat.le_of_ble_eq_true rfl) (fun i v h => by have h2 := (get_slotsOf _ 0 i v h).2; simpa only [List.getElem?_toArray, Nat.sub_zero] using h2)
 have hH := Hp.nil (fun _ => False) w0
 rw [Tryd.ntmps44]
 revert hF; generalize (⟨(#[.int .u64 (n : Int)] : Array Value) ++ Array.replicate (25 - (#[.int .u64 (n : Int)] : Array Value).size) undef, []⟩ : Act) = a; intro hF
 refine wp_seq_k fun khK1 hK1 => ?_
 refine wp_region_lit ?_
 refine l_at hF rfl rfl rfl (x_assign rfl) ?_; clear hF; intro a hF
 refine wpList_nil ?_
 refine hK1 _ _ ?_
 refine wp_seq_k fun khK2 hK2 => ?_
 refine wp_seq_k fun khK3 hK3 => ?_
 refine wp_region_lit ?_
 refine l_at hF rfl rfl rfl (x_move (hF.tmp 0 rfl)) ?_; clear hF; intro a hF
 refine l_at hF rfl rfl rfl (x_geq (hF.tmp 3 rfl) rfl) ?_; clear hF; intro a hF
 refine wpList_nil ?_
 refine hK3 _ _ ?_
 have hJ4 : ∀ a w, ∀ x1 : Nat, ∀ s1 : Nat, (x1 < 4294967296) → (s1 % 8 = 0) → (s1 ≤ 32) → (nb n = s1 / 8 + nb x1) → Fr 25 a [(0, .int .u64 (x1 : Int)), (2, .int .i64 (s1 : Int))] → Hp (fun _ => False) w0 w [] → khK2 a w := by
  intro a w x1 s1 hj4_0 hj4_1 hj4_2 hj4_3 hF hH
  refine hK2 a w ?_
  refine wp_seq_k fun khK4 hK4 => ?_
  refine wp_seq_k fun khK5 hK5 => ?_
  refine wp_region_lit ?_
  refine l_at hF rfl rfl rfl (x_move (hF.tmp 0 rfl)) ?_; clear hF; intro a hF
  refine l_at hF rfl rfl rfl (x_geq (hF.tmp 7 rfl) rfl) ?_; clear hF; intro a hF
  refine wpList_nil ?_
  refine hK5 _ _ ?_
  have hJ8 : ∀ a w, ∀ x2 : Nat, ∀ s2 : Nat, (x2 < 65536) → (s2 % 8 = 0) → (s2 ≤ 48) → (nb n = s2 / 8 + nb x2) → Fr 25 a [(0, .int .u64 (x2 : Int)), (2, .int .i64 (s2 : Int))] → Hp (fun _ => False) w0 w [] → khK4 a w := by
   intro a w x2 s2 hj8_0 hj8_1 hj8_2 hj8_3 hF hH
   refine hK4 a w ?_
   refine wp_seq_k fun khK6 hK6 => ?_
   refine wp_seq_k fun khK7 hK7 => ?_
   refine wp_region_lit ?_
   refine l_at hF rfl rfl rfl (x_move (hF.tmp 0 rfl)) ?_; clear hF; intro a hF
   refine l_at hF rfl rfl rfl (x_geq (hF.tmp 13 rfl) rfl) ?_; clear hF; intro a hF
   refine wpList_nil ?_
   refine hK7 _ _ ?_
   have hJ14 : ∀ a w, ∀ x3 : Nat, ∀ s3 : Nat, (x3 < 256) → (s3 % 8 = 0) → (s3 ≤ 56) → (nb n = s3 / 8 + nb x3) → Fr 25 a [(0, .int .u64 (x3 : Int)), (2, .int .i64 (s3 : Int))] → Hp (fun _ => False) w0 w [] → khK6 a w := by
    intro a w x3 s3 hj14_0 hj14_1 hj14_2 hj14_3 hF hH
    refine hK6 a w ?_
    refine wp_seq_k fun khK8 hK8 => ?_
    refine wp_region_lit ?_
    refine l_at hF rfl rfl rfl (x_move (hF.tmp 2 rfl)) ?_; clear hF; intro a hF
    refine l_at hF rfl rfl rfl (x_move (hF.tmp 0 rfl)) ?_; clear hF; intro a hF
    obtain ⟨u8, hu8, hu8n⟩ := lit8_at hj14_0
    have hlt := lenT_nb hj14_0
    refine l_at hF rfl rfl rfl (x_conv Tryd.underlying5 ⟨_, Tryd.underlying34⟩ (hF.tmp 20 rfl) (wu8 (by omega) (by omega))) ?_; clear hF; intro a hF
    refine l_at hF rfl rfl rfl (x_indexS Tryd.underlying9 (s := lit8) (by kernel_rfl) (hF.tmp 21 rfl) hu8) ?_; clear hF; intro a hF
    refine l_at hF rfl rfl rfl (x_conv Tryd.underlying3 ⟨_, Tryd.underlying5⟩ (hF.tmp 22 rfl) (w64 (by omega) (by omega))) ?_; clear hF; intro a hF
    rw [hu8n] at hF
    refine l_at hF rfl rfl rfl (x_add (hF.tmp 19 rfl) (hF.tmp 23 rfl) (w64 (by omega) (by omega))) ?_; clear hF; intro a hF
    refine l_at hF rfl rfl rfl (x_assign (hF.tmp 24 rfl)) ?_; clear hF; intro a hF
    refine wpList_nil ?_
    refine hK8 _ _ ?_
    refine wp_ret ?_
    try simp only [Exit.then, Exit.inBlock]
    exact fin_ret hF (res1 hF rfl rfl) ⟨s3 + lenT x3, rfl, by omega, by omega, hH.mods⟩
   refine wp_cond_split (hF.tmp 14 rfl) (fun hc14 => ?_) (fun hc14 => ?_)
   ·have hk14_1 := hc14; try simp only [Bool.or_eq_true, Bool.and_eq_true, Bool.or_eq_false_iff, Bool.and_eq_false_iff, Bool.not_eq_true', Bool.not_eq_false', decide_eq_true_eq, decide_eq_false_iff_not, Bool.not_true, Bool.not_false] at hc14
    have hj_1 : x2 / 256 < 256 := by omega
    have hj_2 : (s2 + 8) % 8 = 0 := by omega
    have hj_3 : s2 + 8 ≤ 56 := by omega
    have hj_4 : nb n = (s2 + 8) / 8 + nb (x2 / 256) := by rw [hj8_3, nb_8 (by omega) (by omega)] <;> omega
    refine wp_seq_k fun khK9 hK9 => ?_
    refine wp_region_lit ?_
    refine l_at hF rfl rfl rfl (x_move (hF.tmp 0 rfl)) ?_; clear hF; intro a hF
    refine l_at hF rfl rfl rfl (x_shr (hF.tmp 15 rfl) rfl (by omega) (sh8 x2)) ?_; clear hF; intro a hF
    refine l_at hF rfl rfl rfl (x_assign (hF.tmp 16 rfl)) ?_; clear hF; intro a hF
    refine wpList_nil ?_
    refine hK9 _ _ ?_
    refine wp_region_lit ?_
    refine l_at hF rfl rfl rfl (x_move (hF.tmp 2 rfl)) ?_; clear hF; intro a hF
    refine l_at hF rfl rfl rfl (x_add (hF.tmp 17 rfl) rfl (w64 (by omega) (by omega))) ?_; clear hF; intro a hF
    refine l_at hF rfl rfl rfl (x_assign (hF.tmp 18 rfl)) ?_; clear hF; intro a hF
    refine wpList_nil ?_
    exact hJ14 _ _ _ _ hj_1 hj_2 hj_3 hj_4 ((hF.bare.add hF 2 rfl).add hF 0 rfl) (hH.sub _ (sub_nil _))
   ·have hk14_2 := hc14; try simp only [Bool.or_eq_true, Bool.and_eq_true, Bool.or_eq_false_iff, Bool.and_eq_false_iff, Bool.not_eq_true', Bool.not_eq_false', decide_eq_true_eq, decide_eq_false_iff_not, Bool.not_true, Bool.not_false] at hc14
    have hj_1 : x2 < 256 := by omega
    have hj_2 : (s2) % 8 = 0 := by omega
    have hj_3 : s2 ≤ 56 := by omega
    have hj_4 : nb n = (s2) / 8 + nb x2 := by rw [hj8_3]
    refine wp_skip ?_
    exact hJ14 _ _ _ _ hj_1 hj_2 hj_3 hj_4 ((hF.bare.add hF 2 rfl).add hF 0 rfl) (hH.sub _ (sub_nil _))
  refine wp_cond_split (hF.tmp 8 rfl) (fun hc8 => ?_) (fun hc8 => ?_)
  ·have hk8_3 := hc8; try simp only [Bool.or_eq_true, Bool.and_eq_true, Bool.or_eq_false_iff, Bool.and_eq_false_iff, Bool.not_eq_true', Bool.not_eq_false', decide_eq_true_eq, decide_eq_false_iff_not, Bool.not_true, Bool.not_false] at hc8
   have hj_1 : x1 / 65536 < 65536 := by omega
   have hj_2 : (s1 + 16) % 8 = 0 := by omega
   have hj_3 : s1 + 16 ≤ 48 := by omega
   have hj_4 : nb n = (s1 + 16) / 8 + nb (x1 / 65536) := by rw [hj4_3, nb_16 (by omega) (by omega)] <;> omega
   refine wp_seq_k fun khK10 hK10 => ?_
   refine wp_region_lit ?_
   refine l_at hF rfl rfl rfl (x_move (hF.tmp 0 rfl)) ?_; clear hF; intro a hF
   refine l_at hF rfl rfl rfl (x_shr (hF.tmp 9 rfl) rfl (by omega) (sh16 x1)) ?_; clear hF; intro a hF
   refine l_at hF rfl rfl rfl (x_assign (hF.tmp 10 rfl)) ?_; clear hF; intro a hF
   refine wpList_nil ?_
   refine hK10 _ _ ?_
   refine wp_region_lit ?_
   refine l_at hF rfl rfl rfl (x_move (hF.tmp 2 rfl)) ?_; clear hF; intro a hF
   refine l_at hF rfl rfl rfl (x_add (hF.tmp 11 rfl) rfl (w64 (by omega) (by omega))) ?_; clear hF; intro a hF
   refine l_at hF rfl rfl rfl (x_assign (hF.tmp 12 rfl)) ?_; clear hF; intro a hF
   refine wpList_nil ?_
   exact hJ8 _ _ _ _ hj_1 hj_2 hj_3 hj_4 ((hF.bare.add hF 2 rfl).add hF 0 rfl) (hH.sub _ (sub_nil _))
  ·have hk8_4 := hc8; try simp only [Bool.or_eq_true, Bool.and_eq_true, Bool.or_eq_false_iff, Bool.and_eq_false_iff, Bool.not_eq_true', Bool.not_eq_false', decide_eq_true_eq, decide_eq_false_iff_not, Bool.not_true, Bool.not_false] at hc8
   have hj_1 : x1 < 65536 := by omega
   have hj_2 : (s1) % 8 = 0 := by omega
   have hj_3 : s1 ≤ 48 := by omega
   have hj_4 : nb n = (s1) / 8 + nb x1 := by rw [hj4_3]
   refine wp_skip ?_
   exact hJ8 _ _ _ _ hj_1 hj_2 hj_3 hj_4 ((hF.bare.add hF 2 rfl).add hF 0 rfl) (hH.sub _ (sub_nil _))
 refine wp_cond_split (hF.tmp 4 rfl) (fun hc4 => ?_) (fun hc4 => ?_)
 ·have hk4_5 := hc4; try simp only [Bool.or_eq_true, Bool.and_eq_true, Bool.or_eq_false_iff, Bool.and_eq_false_iff, Bool.not_eq_true', Bool.not_eq_false', decide_eq_true_eq, decide_eq_false_iff_not, Bool.not_true, Bool.not_false] at hc4
  have hj_1 : n / 4294967296 < 4294967296 := by omega
  have hj_2 : (32) % 8 = 0 := by omega
  have hj_3 : 32 ≤ 32 := by omega
  have hj_4 : nb n = (32) / 8 + nb (n / 4294967296) := by rw [nb_32 (by omega) (by omega)] <;> omega
  refine wp_seq_k fun khK11 hK11 => ?_
  refine wp_region_lit ?_
  refine l_at hF rfl rfl rfl (x_move (hF.tmp 0 rfl)) ?_; clear hF; intro a hF
  refine l_at hF rfl rfl rfl (x_shr (hF.tmp 5 rfl) rfl (by omega) (sh32 n)) ?_; clear hF; intro a hF
  refine l_at hF rfl rfl rfl (x_assign (hF.tmp 6 rfl)) ?_; clear hF; intro a hF
  refine wpList_nil ?_
  refine hK11 _ _ ?_
  refine wp_region_lit ?_
  refine l_at hF rfl rfl rfl (x_assign rfl) ?_; clear hF; intro a hF
  refine wpList_nil ?_
  exact hJ4 _ _ _ _ hj_1 hj_2 hj_3 hj_4 ((hF.bare.add hF 2 rfl).add hF 0 rfl) (hH.sub _ (sub_nil _))
 ·have hk4_6 := hc4; try simp only [Bool.or_eq_true, Bool.and_eq_true, Bool.or_eq_false_iff, Bool.and_eq_false_iff, Bool.not_eq_true', Bool.not_eq_false', decide_eq_true_eq, decide_eq_false_iff_not, Bool.not_true, Bool.not_false] at hc4
  have hj_1 : n < 4294967296 := by omega
  have hj_2 : (0) % 8 = 0 := by omega
  have hj_3 : 0 ≤ 32 := by omega
  have hj_4 : nb n = (0) / 8 + nb n := by simp
  refine wp_skip ?_
  exact hJ4 _ _ _ _ hj_1 hj_2 hj_3 hj_4 ((hF.bare.add hF 2 rfl).add hF 0 rfl) (hH.sub _ (sub_nil _))
set_option maxRecDepth 100000 in
set_option maxHeartbeats 1000000 in
theorem bytes_calls (w0 : World) (n : Nat) (hn : n < 18446744073709551616) : Calls Tryd.prog 14 #[.int .u64 (n : Int)] w0 fun e w' => ∃ v, e = .returned v ∧ Mods (fun _ => False) w0 w' ∧ RowOut (.int .u8) 5 w0 w' v (bytesI n) := by
 refine calls_of_wp Tryd.func14 rfl ?_
 have hF := Fr.enter #[.int .u64 (n : Int)] 23 (slotsOf [.int .u64 (n : Int)] 0) (Nat.le_of_ble_eq_true rfl) (fun i v h => by have h2 := (get_slotsOf _ 0 i v h).2; simpa only [List.getElem?_toArray, Nat.sub_zero] using h2)
 have hH := Hp.nil (fun _ => False) w0
 rw [Tryd.ntmps14]
 revert hF; generalize (⟨(#[.int .u64 (n : Int)] : Array Value) ++ Array.replicate (23 - (#[.int .u64 (n : Int)] : Array Value).size) undef, []⟩ : Act) = a; intro hF
 refine wp_seq_k fun khK1 hK1 => ?_
 refine wp_region_lit ?_
 refine l_at hF rfl rfl rfl (x_assign rfl) ?_; clear hF; intro a hF
 refine wpList_nil ?_
 refine hK1 _ _ ?_
 refine wp_seq_k fun khK2 hK2 => ?_
 refine wp_region_lit ?_
 refine l_at hF rfl rfl rfl (x_assign rfl) ?_; clear hF; intro a hF
 have hH := hH.row0 3 (.int .u8) 5
 refine wpList_nil ?_
 refine hK2 _ _ ?_
 refine wp_seq_k fun khK3 hK3 => ?_
 refine wp_seq_k fun khK4 hK4 => ?_
 refine wp_region_lit ?_
 refine l_at hF rfl rfl rfl (x_move (hF.tmp 0 rfl)) ?_; clear hF; intro a hF
 refine wpList_plain rfl fun K hK => ?_
 refine w_call hF (x_enter Tryd.func44 (by kernel_rfl) rfl (by simp only [List.map_toArray, List.map_cons, List.map_nil, hF.tmp 5 rfl] <;> rfl)) (len_calls _ n hn) rfl rfl ?_
 rintro _ w ⟨l, rfl, hl64, hlnb, hm_⟩; refine ⟨_, rfl, ?_⟩; clear hF; intro a hF; have hH := hH.same hm_
 refine hK _ _ ?_; clear hK K
 refine l_at hF rfl rfl rfl (x_add (hF.tmp 6 rfl) rfl (w64 (by omega) (by omega))) ?_; clear hF; intro a hF
 refine l_at hF rfl rfl rfl (x_quo (hF.tmp 7 rfl) rfl (by decide) (quo8 hl64 hlnb)) ?_; clear hF; intro a hF
 have hnb := nb_le n
 refine l_at hF rfl rfl rfl (x_assign (hF.tmp 8 rfl)) ?_; clear hF; intro a hF
 refine wpList_nil ?_
 refine hK4 _ _ ?_
 refine wp_block ?_
 refine wp_loop_ghost (fun n_ a w => ∃ k : Nat, ∃ ys : List Int, ∃ v3 : Value, n_ = 9 + k ∧ (k ≤ nb n) ∧ (ys ++ bts n k = bts n (nb n)) ∧ (ys.length ≤ 8 - k) ∧ Fr 23 a [(0, .int .u64 (n : Int)), (3, v3), (4, .int .i64 (k : Int))] ∧ Hp (fun _ => False) w0 w [(3, .row (.int .u8) 5 v3 ys (fun _ => False))]) (9 + nb n) ?_ ?_
 ·exact ⟨nb n, [], .slice none 0 0, rfl, by omega, rfl, by simp, (((hF.bare.add hF 4 rfl).add hF 3 rfl).add hF 0 rfl), hH.sub _ (sub_cons (sub_nil _) 3 rfl)⟩
 ·rintro _ a w ⟨k, ys, v3, rfl, hq0_0, hq0_1, hq0_2, hF, hH⟩
  refine wp_seq_k fun khK5 hK5 => ?_
  refine wp_seq_k fun khK6 hK6 => ?_
  refine wp_region_lit ?_
  refine l_at hF rfl rfl rfl (x_move (hF.tmp 4 rfl)) ?_; clear hF; intro a hF
  refine l_at hF rfl rfl rfl (x_gtr (hF.tmp 9 rfl) rfl) ?_; clear hF; intro a hF
  refine wpList_nil ?_
  refine hK6 _ _ ?_
  refine wp_cond_split (hF.tmp 10 rfl) (fun hc10 => ?_) (fun hc10 => ?_)
  ·have hk10_1 := hc10; try simp only [Bool.or_eq_true, Bool.and_eq_true, Bool.or_eq_false_iff, Bool.and_eq_false_iff, Bool.not_eq_true', Bool.not_eq_false', decide_eq_true_eq, decide_eq_false_iff_not, Bool.not_true, Bool.not_false] at hc10
   refine wp_skip ?_
   refine hK5 _ _ ?_
   refine wp_seq_k fun khK7 hK7 => ?_
   refine wp_block ?_
   refine wp_region_lit ?_
   refine l_at hF rfl rfl rfl (x_move (hF.tmp 3 rfl)) ?_; clear hF; intro a hF
   refine l_at hF rfl rfl rfl (x_move (hF.tmp 0 rfl)) ?_; clear hF; intro a hF
   refine l_at hF rfl rfl rfl (x_move (hF.tmp 4 rfl)) ?_; clear hF; intro a hF
   refine l_at hF rfl rfl rfl (x_mul rfl (hF.tmp 15 rfl) (w64 (by omega) (by omega))) ?_; clear hF; intro a hF
   refine l_at hF rfl rfl rfl (x_sub (hF.tmp 16 rfl) rfl (w64 (by omega) (by omega))) ?_; clear hF; intro a hF
   refine l_at hF rfl rfl rfl (x_shr (hF.tmp 14 rfl) (hF.tmp 17 rfl) (by omega) (shrB (by omega) (by omega))) ?_; clear hF; intro a hF
   refine l_at hF rfl rfl rfl (x_conv Tryd.underlying5 ⟨_, Tryd.underlying34⟩ (hF.tmp 18 rfl) (digW _ _)) ?_; clear hF; intro a hF
   refine wpList_plain rfl fun K hK => ?_
   refine w_lit 20 (enc := Value.int .u8) (h1 := fun _ => rfl) ([dig n (k - 1)]) hF hH rfl Tryd.underlying28 ty5 (by simp only [List.map_toArray, List.map_cons, List.map_nil, hF.tmp 19 rfl]; rfl) rfl (by decide) (by decide) (by kernel_rfl) ?_
   clear hF hH; intro a w b20 hF hH
   refine hK _ _ ?_; clear hK K
   refine wpList_plain rfl fun K hK => ?_
   refine w_append 3 20 (xs := ys) (ys := ([dig n (k - 1)])) hF hH rfl Tryd.underlying28 ty5 rfl rfl rfl rfl (Row.rd (ok' := fun k_ => (fun _ => False) k_ ∨ (.slice (some ⟨b20, 0, none⟩) ([dig n (k - 1)]).length ([dig n (k - 1)]).length : Value).ownBlock = some k_) (hH.row 20 rfl) (fun _ hk_ _ => .inl hk_) (fun _ hk_ => .inr hk_)) (by rintro k_ (hk_ | hk_); exact .inr hk_; exact .inl hk_) (hF.tmp 13 rfl) (hF.tmp 20 rfl) (by simp only [List.length_cons, List.length_nil] at *; omega) (by simp only [List.length_cons, List.length_nil, maxLen] at *; omega) (fun _ => False) (fun w' v' h => row_flat h _) (fun k_ hk_ => hk_.elim) ?_
   clear hF hH; intro a w v21 hF hH
   refine hK _ _ ?_; clear hK K
   refine l_at hF rfl rfl rfl (x_assign (hF.tmp 21 rfl)) ?_; clear hF; intro a hF
   refine wpList_nil ?_
   refine hK7 _ _ ?_
   refine wp_region_lit ?_
   refine l_at hF rfl rfl rfl (x_move (hF.tmp 4 rfl)) ?_; clear hF; intro a hF
   refine l_at hF rfl rfl rfl (x_sub (hF.tmp 11 rfl) rfl (w64 (by omega) (by omega))) ?_; clear hF; intro a hF
   refine l_at hF rfl rfl rfl (x_assign (hF.tmp 12 rfl)) ?_; clear hF; intro a hF
   refine wpList_nil ?_
   have hFs : Fr 23 a [(0, .int .u64 (n : Int)), (3, v21), (4, .int .i64 ((k : Int) - 1))] := (((hF.bare.add hF 4 rfl).add hF 3 rfl).add hF 0 rfl)
   rw [show ((k : Int) - 1) = ((k - 1 : Nat) : Int) by omega] at hFs
   exact ⟨_, by omega, ⟨k - 1, ys ++ [dig n (k - 1)], v21, rfl, by omega, bts_step (by omega) hq0_1, by simp only [List.length_append, List.length_cons, List.length_nil]; omega, hFs, hH.sub _ (sub_cons (sub_nil _) 3 rfl)⟩⟩
  ·have hk10_2 := hc10; try simp only [Bool.or_eq_true, Bool.and_eq_true, Bool.or_eq_false_iff, Bool.and_eq_false_iff, Bool.not_eq_true', Bool.not_eq_false', decide_eq_true_eq, decide_eq_false_iff_not, Bool.not_true, Bool.not_false] at hc10
   obtain rfl : k = 0 := by omega
   have hys : ys = bytesI n := by simpa [bts, bytesI] using hq0_1
   subst hys
   refine wp_exit ?_
   refine hK3 _ _ ?_
   refine wp_seq_k fun khK8 hK8 => ?_
   refine wp_region_lit ?_
   refine l_at hF rfl rfl rfl (x_move (hF.tmp 3 rfl)) ?_; clear hF; intro a hF
   refine l_at hF rfl rfl rfl (x_assign (hF.tmp 22 rfl)) ?_; clear hF; intro a hF
   refine wpList_nil ?_
   refine hK8 _ _ ?_
   refine wp_ret ?_
   try simp only [Exit.then, Exit.inBlock]
   exact fin_ret hF (res1 hF rfl rfl) ⟨_, rfl, hH.mods, Hp.out hH 3 rfl⟩
set_option maxRecDepth 100000 in
set_option maxHeartbeats 1000000 in
theorem refEnc_calls (w0 : World) {ok : Nat → Prop} {A : Option Addr} {xs : List Fld} {c : Nat} (hr : Rd FE w0 ok A xs c) : Calls Tryd.prog 129 #[.slice A xs.length c] w0 fun e w' => ∃ v, e = .returned (.tuple #[v, .int .i64 (if (encR xs).isSome then 0 else 11)]) ∧ Mods (fun _ => False) w0 w' ∧ RowOut (.int .u8) 5 w0 w' v ((encR xs).getD []) := by
 refine calls_of_wp Tryd.func129 rfl ?_
 have hF := Fr.enter #[.slice A xs.length c] 63 (slotsOf [.slice A xs.length c] 0) (Nat.le_of_ble_eq_true rfl) (fun i v h => by have h2 := (get_slotsOf _ 0 i v h).2; simpa only [List.getElem?_toArray, Nat.sub_zero] using h2)
 have hH := Hp.nil (fun _ => False) w0
 rw [Tryd.ntmps129]
 revert hF; generalize (⟨(#[.slice A xs.length c] : Array Value) ++ Array.replicate (63 - (#[.slice A xs.length c] : Array Value).size) undef, []⟩ : Act) = a; intro hF
 have hH := hH.arg 901 hr.all (fun _ h => ⟨h, fun h => h⟩)
 have hle901 := hr.le; unfold maxLen at hle901
 refine wp_seq_k fun khK1 hK1 => ?_
 refine wp_region_lit ?_
 refine l_at hF rfl rfl rfl (x_assign rfl) ?_; clear hF; intro a hF
 refine l_at hF rfl rfl rfl (x_assign rfl) ?_; clear hF; intro a hF
 refine wpList_nil ?_
 refine hK1 _ _ ?_
 refine wp_seq_k fun khK2 hK2 => ?_
 refine wp_seq_k fun khK3 hK3 => ?_
 refine wp_region_lit ?_
 refine l_at hF rfl rfl rfl (x_move (hF.tmp 0 rfl)) ?_; clear hF; intro a hF
 refine l_at hF rfl rfl rfl (x_len_slice Tryd.underlying100 (hF.tmp 7 rfl)) ?_; clear hF; intro a hF
 refine l_at hF rfl rfl rfl (x_gtr (hF.tmp 8 rfl) rfl) ?_; clear hF; intro a hF
 refine wpList_nil ?_
 refine hK3 _ _ ?_
 refine wp_cond_split (hF.tmp 9 rfl) (fun hc9 => ?_) (fun hc9 => ?_)
 ·have hk9_1 := hc9; try simp only [Bool.or_eq_true, Bool.and_eq_true, Bool.or_eq_false_iff, Bool.and_eq_false_iff, Bool.not_eq_true', Bool.not_eq_false', decide_eq_true_eq, decide_eq_false_iff_not, Bool.not_true, Bool.not_false] at hc9
  have hnone := encR_many hc9
  refine wp_seq_k fun khK4 hK4 => ?_
  refine wp_region_lit ?_
  refine l_at hF rfl rfl rfl (x_assign rfl) ?_; clear hF; intro a hF
  refine l_at hF rfl rfl rfl (x_assign rfl) ?_; clear hF; intro a hF
  refine wpList_nil ?_
  refine hK4 _ _ ?_
  refine wp_ret ?_
  try simp only [Exit.then, Exit.inBlock]
  exact fin_ret hF (res2 hF rfl rfl rfl) ⟨.slice none 0 0, by rw [hnone]; rfl, hH.mods, by rw [hnone]; exact RowOut.nil _ _ _ _⟩
 ·have hk9_2 := hc9; try simp only [Bool.or_eq_true, Bool.and_eq_true, Bool.or_eq_false_iff, Bool.and_eq_false_iff, Bool.not_eq_true', Bool.not_eq_false', decide_eq_true_eq, decide_eq_false_iff_not, Bool.not_true, Bool.not_false] at hc9
  refine wp_skip ?_
  refine hK2 _ _ ?_
  refine wp_seq_k fun khK5 hK5 => ?_
  refine wp_region_lit ?_
  refine l_at hF rfl rfl rfl (x_assign rfl) ?_; clear hF; intro a hF
  have hH := hH.row0 4 (.int .u8) 5
  refine wpList_nil ?_
  refine hK5 _ _ ?_
  refine wp_seq_k fun khK6 hK6 => ?_
  refine wp_seq_k fun khK7 hK7 => ?_
  refine wp_region_lit ?_
  refine l_at hF rfl rfl rfl (x_assign rfl) ?_; clear hF; intro a hF
  refine wpList_nil ?_
  refine hK7 _ _ ?_
  refine wp_block ?_
  refine wp_loop_ghost (fun n_ a w => ∃ k : Nat, ∃ v4 : Value, n_ = xs.length - k ∧ (k ≤ xs.length) ∧ ((xs.take k).all okF = true) ∧ ((encI (xs.take k)).length ≤ 2003 * k) ∧ Fr 63 a [(0, .slice A xs.length c), (4, v4), (5, .int .i64 (k : Int))] ∧ Hp (fun _ => False) w0 w [(901, .rd_ FE A xs c (fun k => k < w0.heap.size)), (4, .row (.int .u8) 5 v4 (encI (xs.take k)) (fun _ => False))]) (xs.length) ?_ ?_
  ·exact ⟨0, .slice none 0 0, rfl, by omega, rfl, by simp [encI], (((hF.bare.add hF 5 rfl).add hF 4 rfl).add hF 0 rfl), hH.sub _ (sub_cons (sub_cons (sub_nil _) 4 rfl) 901 rfl)⟩
  ·rintro _ a w ⟨k, v4, rfl, hq0_0, hq0_1, hq0_2, hF, hH⟩
   refine wp_seq_k fun khK8 hK8 => ?_
   refine wp_seq_k fun khK9 hK9 => ?_
   refine wp_region_lit ?_
   refine l_at hF rfl rfl rfl (x_move (hF.tmp 5 rfl)) ?_; clear hF; intro a hF
   refine l_at hF rfl rfl rfl (x_move (hF.tmp 0 rfl)) ?_; clear hF; intro a hF
   refine l_at hF rfl rfl rfl (x_len_slice Tryd.underlying100 (hF.tmp 11 rfl)) ?_; clear hF; intro a hF
   refine l_at hF rfl rfl rfl (x_lss (hF.tmp 10 rfl) (hF.tmp 12 rfl)) ?_; clear hF; intro a hF
   refine wpList_nil ?_
   refine hK9 _ _ ?_
   refine wp_cond_split (hF.tmp 13 rfl) (fun hc13 => ?_) (fun hc13 => ?_)
   ·have hk13_3 := hc13; try simp only [Bool.or_eq_true, Bool.and_eq_true, Bool.or_eq_false_iff, Bool.and_eq_false_iff, Bool.not_eq_true', Bool.not_eq_false', decide_eq_true_eq, decide_eq_false_iff_not, Bool.not_true, Bool.not_false] at hc13
    obtain ⟨fA1, fc1, hfr1, hf1_0, hf1_1, hfw1⟩ := Rd.fld ((hH.rd 901 rfl)) (gf_some (xs := xs) (i := (k : Int)) (by omega) (by omega))
    have hH := hH.subrd 901 rfl 1001 hfr1 (fun _ h => h)
    have hH := hH.subcels 901 rfl 1499 hfw1 (Rd.inok ((hH.rd 901 rfl)) (by omega) _)
    have hH := hH.subcel 901 rfl 1500 hf1_0 (Rd.inok ((hH.rd 901 rfl)) (by omega) _)
    have hH := hH.subcel 901 rfl 1501 hf1_1 (Rd.inok ((hH.rd 901 rfl)) (by omega) _)
    refine wp_skip ?_
    refine hK8 _ _ ?_
    refine wp_seq_k fun khK10 hK10 => ?_
    refine wp_block ?_
    refine wp_seq_k fun khK11 hK11 => ?_
    refine wp_region_lit ?_
    refine l_at hF rfl rfl rfl (x_move (hF.tmp 0 rfl)) ?_; clear hF; intro a hF
    refine l_at hF rfl rfl rfl (x_move (hF.tmp 5 rfl)) ?_; clear hF; intro a hF
    refine l_at hF rfl rfl rfl (x_iaddr_A Tryd.underlying100 ty99 ((hH.rd 901 rfl)) (hF.tmp 16 rfl) (hF.tmp 17 rfl) (by omega) (by omega) _) ?_; clear hF; intro a hF
    refine l_at hF rfl rfl rfl (x_faddrA ((hH.rd 901 rfl)) (by omega) _ Tryd.underlying99 rfl ty28 (by decide) (hF.tmp 18 rfl) rfl) ?_; clear hF; intro a hF
    refine l_at hF rfl rfl rfl (x_load1 ty28 (hF.tmp 19 rfl) (hH.holds 1501 _ rfl)) ?_; clear hF; intro a hF
    refine l_at hF rfl rfl rfl (x_len_slice Tryd.underlying28 (hF.tmp 20 rfl)) ?_; clear hF; intro a hF
    refine l_at hF rfl rfl rfl (x_assign (hF.tmp 21 rfl)) ?_; clear hF; intro a hF
    refine wpList_nil ?_
    refine hK11 _ _ ?_
    refine wp_seq_k fun khK12 hK12 => ?_
    refine wp_seq_k fun khK13 hK13 => ?_
    refine wp_region_lit ?_
    refine l_at hF rfl rfl rfl (x_move (hF.tmp 0 rfl)) ?_; clear hF; intro a hF
    refine l_at hF rfl rfl rfl (x_move (hF.tmp 5 rfl)) ?_; clear hF; intro a hF
    refine l_at hF rfl rfl rfl (x_iaddr_A Tryd.underlying100 ty99 ((hH.rd 901 rfl)) (hF.tmp 22 rfl) (hF.tmp 23 rfl) (by omega) (by omega) _) ?_; clear hF; intro a hF
    refine l_at hF rfl rfl rfl (x_faddrA ((hH.rd 901 rfl)) (by omega) _ Tryd.underlying99 rfl ty3 (by decide) (hF.tmp 24 rfl) rfl) ?_; clear hF; intro a hF
    refine l_at hF rfl rfl rfl (x_load1 ty3 (hF.tmp 25 rfl) (hH.holds 1500 _ rfl)) ?_; clear hF; intro a hF
    refine l_at hF rfl rfl rfl (x_lss (hF.tmp 26 rfl) rfl) ?_; clear hF; intro a hF
    refine l_at hF rfl rfl rfl (x_move (hF.tmp 27 rfl)) ?_; clear hF; intro a hF
    refine split_bool hF 28 rfl (fun hb28 => ?_) (fun hb28 => ?_)
    ·have hc28 := hb28; try simp only [Bool.or_eq_true, Bool.and_eq_true, Bool.or_eq_false_iff, Bool.and_eq_false_iff, Bool.not_eq_true', Bool.not_eq_false', decide_eq_true_eq, decide_eq_false_iff_not, Bool.not_true, Bool.not_false] at hc28
     have hnone := encR_bad (by omega) (.inl hc28)
     refine l_offg hF ((wanted_of hF rfl rfl rfl rfl).trans (by rw [hb28]; rfl)) rfl rfl ?_; clear hF; intro a hF
     refine l_offg hF ((wanted_of hF rfl rfl rfl rfl).trans (by rw [hb28]; rfl)) rfl rfl ?_; clear hF; intro a hF
     refine l_offg hF ((wanted_of hF rfl rfl rfl rfl).trans (by rw [hb28]; rfl)) rfl rfl ?_; clear hF; intro a hF
     refine l_offg hF ((wanted_of hF rfl rfl rfl rfl).trans (by rw [hb28]; rfl)) rfl rfl ?_; clear hF; intro a hF
     refine l_offg hF ((wanted_of hF rfl rfl rfl rfl).trans (by rw [hb28]; rfl)) rfl rfl ?_; clear hF; intro a hF
     refine l_offg hF ((wanted_of hF rfl rfl rfl rfl).trans (by rw [hb28]; rfl)) rfl rfl ?_; clear hF; intro a hF
     refine l_at hF rfl rfl rfl (x_pickT (hF.tmp 28 rfl) hb28 rfl) ?_; clear hF; intro a hF
     refine l_at hF rfl rfl rfl (x_move (hF.tmp 35 rfl)) ?_; clear hF; intro a hF
     refine l_offg hF ((wanted_of hF rfl rfl rfl rfl).trans rfl) rfl rfl ?_; clear hF; intro a hF
     refine l_offg hF ((wanted_of hF rfl rfl rfl rfl).trans rfl) rfl rfl ?_; clear hF; intro a hF
     refine l_at hF rfl rfl rfl (x_pickT (hF.tmp 36 rfl) rfl rfl) ?_; clear hF; intro a hF
     refine wpList_nil ?_
     refine hK13 _ _ ?_
     refine wp_cond_true (hF.tmp 39 rfl) ?_
     refine wp_seq_k fun khK14 hK14 => ?_
     refine wp_region_lit ?_
     refine l_at hF rfl rfl rfl (x_assign rfl) ?_; clear hF; intro a hF
     refine l_at hF rfl rfl rfl (x_assign rfl) ?_; clear hF; intro a hF
     refine wpList_nil ?_
     refine hK14 _ _ ?_
     refine wp_ret ?_
     try simp only [Exit.then, Exit.inBlock]
     exact fin_ret hF (res2 hF rfl rfl rfl) ⟨.slice none 0 0, by rw [hnone]; rfl, hH.mods, by rw [hnone]; exact RowOut.nil _ _ _ _⟩
    ·have hc28 := hb28; try simp only [Bool.or_eq_true, Bool.and_eq_true, Bool.or_eq_false_iff, Bool.and_eq_false_iff, Bool.not_eq_true', Bool.not_eq_false', decide_eq_true_eq, decide_eq_false_iff_not, Bool.not_true, Bool.not_false] at hc28
     refine l_atg hF ((wanted_of hF rfl rfl rfl rfl).trans (by rw [hb28]; rfl)) rfl rfl (x_move (hF.tmp 0 rfl)) ?_; clear hF; intro a hF
     refine l_atg hF ((wanted_of hF rfl rfl rfl rfl).trans (by rw [hb28]; rfl)) rfl rfl (x_move (hF.tmp 5 rfl)) ?_; clear hF; intro a hF
     refine l_atg hF ((wanted_of hF rfl rfl rfl rfl).trans (by rw [hb28]; rfl)) rfl rfl (x_iaddr_A Tryd.underlying100 ty99 ((hH.rd 901 rfl)) (hF.tmp 29 rfl) (hF.tmp 30 rfl) (by omega) (by omega) _) ?_; clear hF; intro a hF
     refine l_atg hF ((wanted_of hF rfl rfl rfl rfl).trans (by rw [hb28]; rfl)) rfl rfl (x_faddrA ((hH.rd 901 rfl)) (by omega) _ Tryd.underlying99 rfl ty3 (by decide) (hF.tmp 31 rfl) rfl) ?_; clear hF; intro a hF
     refine l_atg hF ((wanted_of hF rfl rfl rfl rfl).trans (by rw [hb28]; rfl)) rfl rfl (x_load1 ty3 (hF.tmp 32 rfl) (hH.holds 1500 _ rfl)) ?_; clear hF; intro a hF
     refine l_atg hF ((wanted_of hF rfl rfl rfl rfl).trans (by rw [hb28]; rfl)) rfl rfl (x_gtr (hF.tmp 33 rfl) rfl) ?_; clear hF; intro a hF
     refine l_at hF rfl rfl rfl (x_pickF (hF.tmp 28 rfl) hb28 (hF.tmp 34 rfl)) ?_; clear hF; intro a hF
     refine l_at hF rfl rfl rfl (x_move (hF.tmp 35 rfl)) ?_; clear hF; intro a hF
     refine split_bool hF 36 rfl (fun hb36 => ?_) (fun hb36 => ?_)
     ·have hc36 := hb36; try simp only [Bool.or_eq_true, Bool.and_eq_true, Bool.or_eq_false_iff, Bool.and_eq_false_iff, Bool.not_eq_true', Bool.not_eq_false', decide_eq_true_eq, decide_eq_false_iff_not, Bool.not_true, Bool.not_false] at hc36
      have hnone := encR_bad (by omega) (.inr (.inl hc36))
      refine l_offg hF ((wanted_of hF rfl rfl rfl rfl).trans (by rw [hb36]; rfl)) rfl rfl ?_; clear hF; intro a hF
      refine l_offg hF ((wanted_of hF rfl rfl rfl rfl).trans (by rw [hb36]; rfl)) rfl rfl ?_; clear hF; intro a hF
      refine l_at hF rfl rfl rfl (x_pickT (hF.tmp 36 rfl) hb36 rfl) ?_; clear hF; intro a hF
      refine wpList_nil ?_
      refine hK13 _ _ ?_
      refine wp_cond_true (hF.tmp 39 rfl) ?_
      refine wp_seq_k fun khK15 hK15 => ?_
      refine wp_region_lit ?_
      refine l_at hF rfl rfl rfl (x_assign rfl) ?_; clear hF; intro a hF
      refine l_at hF rfl rfl rfl (x_assign rfl) ?_; clear hF; intro a hF
      refine wpList_nil ?_
      refine hK15 _ _ ?_
      refine wp_ret ?_
      try simp only [Exit.then, Exit.inBlock]
      exact fin_ret hF (res2 hF rfl rfl rfl) ⟨.slice none 0 0, by rw [hnone]; rfl, hH.mods, by rw [hnone]; exact RowOut.nil _ _ _ _⟩
     ·have hc36 := hb36; try simp only [Bool.or_eq_true, Bool.and_eq_true, Bool.or_eq_false_iff, Bool.and_eq_false_iff, Bool.not_eq_true', Bool.not_eq_false', decide_eq_true_eq, decide_eq_false_iff_not, Bool.not_true, Bool.not_false] at hc36
      refine l_atg hF ((wanted_of hF rfl rfl rfl rfl).trans (by rw [hb36]; rfl)) rfl rfl (x_move (hF.tmp 6 rfl)) ?_; clear hF; intro a hF
      refine l_atg hF ((wanted_of hF rfl rfl rfl rfl).trans (by rw [hb36]; rfl)) rfl rfl (x_gtr (hF.tmp 37 rfl) rfl) ?_; clear hF; intro a hF
      refine l_at hF rfl rfl rfl (x_pickF (hF.tmp 36 rfl) hb36 (hF.tmp 38 rfl)) ?_; clear hF; intro a hF
      refine wpList_nil ?_
      refine hK13 _ _ ?_
      refine wp_cond_split (hF.tmp 39 rfl) (fun hc39 => ?_) (fun hc39 => ?_)
      ·have hk39_4 := hc39; try simp only [Bool.or_eq_true, Bool.and_eq_true, Bool.or_eq_false_iff, Bool.and_eq_false_iff, Bool.not_eq_true', Bool.not_eq_false', decide_eq_true_eq, decide_eq_false_iff_not, Bool.not_true, Bool.not_false] at hc39
       have hnone := encR_bad (by omega) (.inr (.inr hc39))
       refine wp_seq_k fun khK16 hK16 => ?_
       refine wp_region_lit ?_
       refine l_at hF rfl rfl rfl (x_assign rfl) ?_; clear hF; intro a hF
       refine l_at hF rfl rfl rfl (x_assign rfl) ?_; clear hF; intro a hF
       refine wpList_nil ?_
       refine hK16 _ _ ?_
       refine wp_ret ?_
       try simp only [Exit.then, Exit.inBlock]
       exact fin_ret hF (res2 hF rfl rfl rfl) ⟨.slice none 0 0, by rw [hnone]; rfl, hH.mods, by rw [hnone]; exact RowOut.nil _ _ _ _⟩
      ·have hk39_5 := hc39; try simp only [Bool.or_eq_true, Bool.and_eq_true, Bool.or_eq_false_iff, Bool.and_eq_false_iff, Bool.not_eq_true', Bool.not_eq_false', decide_eq_true_eq, decide_eq_false_iff_not, Bool.not_true, Bool.not_false] at hc39
       refine wp_skip ?_
       refine hK12 _ _ ?_
       refine wp_seq_k fun khK17 hK17 => ?_
       refine wp_region_lit ?_
       refine l_at hF rfl rfl rfl (x_move (hF.tmp 4 rfl)) ?_; clear hF; intro a hF
       refine l_at hF rfl rfl rfl (x_move (hF.tmp 0 rfl)) ?_; clear hF; intro a hF
       refine l_at hF rfl rfl rfl (x_move (hF.tmp 5 rfl)) ?_; clear hF; intro a hF
       refine l_at hF rfl rfl rfl (x_iaddr_A Tryd.underlying100 ty99 ((hH.rd 901 rfl)) (hF.tmp 41 rfl) (hF.tmp 42 rfl) (by omega) (by omega) _) ?_; clear hF; intro a hF
       refine l_at hF rfl rfl rfl (x_faddrA ((hH.rd 901 rfl)) (by omega) _ Tryd.underlying99 rfl ty3 (by decide) (hF.tmp 43 rfl) rfl) ?_; clear hF; intro a hF
       refine l_at hF rfl rfl rfl (x_load1 ty3 (hF.tmp 44 rfl) (hH.holds 1500 _ rfl)) ?_; clear hF; intro a hF
       refine l_at hF rfl rfl rfl (x_conv Tryd.underlying5 ⟨_, Tryd.underlying3⟩ (hF.tmp 45 rfl) (wu8 (by omega) (by omega))) ?_; clear hF; intro a hF
       refine l_at hF rfl rfl rfl (x_move (hF.tmp 6 rfl)) ?_; clear hF; intro a hF
       refine l_at hF rfl rfl rfl (x_quo (hF.tmp 47 rfl) rfl (by decide) (quo256i (by omega))) ?_; clear hF; intro a hF
       refine l_at hF rfl rfl rfl (x_conv Tryd.underlying5 ⟨_, Tryd.underlying3⟩ (hF.tmp 48 rfl) (wu8 (by omega) (by omega))) ?_; clear hF; intro a hF
       refine l_at hF rfl rfl rfl (x_move (hF.tmp 6 rfl)) ?_; clear hF; intro a hF
       refine l_at hF rfl rfl rfl (x_rem (hF.tmp 50 rfl) rfl (by decide) (rem256i _)) ?_; clear hF; intro a hF
       refine l_at hF rfl rfl rfl (x_conv Tryd.underlying5 ⟨_, Tryd.underlying3⟩ (hF.tmp 51 rfl) (wu8 (by omega) (by omega))) ?_; clear hF; intro a hF
       refine wpList_plain rfl fun K hK => ?_
       refine w_lit 53 (enc := Value.int .u8) (h1 := fun _ => rfl) ([(gf xs (k : Int)).1, ((gf xs (k : Int)).2.length : Int) / 256, ((gf xs (k : Int)).2.length : Int) % 256]) hF hH rfl Tryd.underlying28 ty5 (by simp only [List.map_toArray, List.map_cons, List.map_nil, hF.tmp 46 rfl, hF.tmp 49 rfl, hF.tmp 52 rfl]; rfl) rfl (by decide) (by decide) (by kernel_rfl) ?_
       clear hF hH; intro a w b53 hF hH
       refine hK _ _ ?_; clear hK K
       refine wpList_plain rfl fun K hK => ?_
       refine w_append 4 53 (xs := (encI (xs.take k))) (ys := ([(gf xs (k : Int)).1, ((gf xs (k : Int)).2.length : Int) / 256, ((gf xs (k : Int)).2.length : Int) % 256])) hF hH rfl Tryd.underlying28 ty5 rfl rfl rfl rfl (Row.rd (ok' := fun k_ => (fun _ => False) k_ ∨ (.slice (some ⟨b53, 0, none⟩) ([(gf xs (k : Int)).1, ((gf xs (k : Int)).2.length : Int) / 256, ((gf xs (k : Int)).2.length : Int) % 256]).length ([(gf xs (k : Int)).1, ((gf xs (k : Int)).2.length : Int) / 256, ((gf xs (k : Int)).2.length : Int) % 256]).length : Value).ownBlock = some k_) (hH.row 53 rfl) (fun _ hk_ _ => .inl hk_) (fun _ hk_ => .inr hk_)) (by rintro k_ (hk_ | hk_); exact .inr hk_; exact .inl hk_) (hF.tmp 40 rfl) (hF.tmp 53 rfl) (by simp only [List.length_cons, List.length_nil] at *; omega) (by simp only [List.length_cons, List.length_nil, maxLen] at *; omega) (fun _ => False) (fun w' v' h => row_flat h _) (fun k_ hk_ => hk_.elim) ?_
       clear hF hH; intro a w v54 hF hH
       refine hK _ _ ?_; clear hK K
       refine l_at hF rfl rfl rfl (x_assign (hF.tmp 54 rfl)) ?_; clear hF; intro a hF
       refine wpList_nil ?_
       refine hK17 _ _ ?_
       refine wp_region_lit ?_
       refine l_at hF rfl rfl rfl (x_move (hF.tmp 4 rfl)) ?_; clear hF; intro a hF
       refine l_at hF rfl rfl rfl (x_move (hF.tmp 0 rfl)) ?_; clear hF; intro a hF
       refine l_at hF rfl rfl rfl (x_move (hF.tmp 5 rfl)) ?_; clear hF; intro a hF
       refine l_at hF rfl rfl rfl (x_iaddr_A Tryd.underlying100 ty99 ((hH.rd 901 rfl)) (hF.tmp 56 rfl) (hF.tmp 57 rfl) (by omega) (by omega) _) ?_; clear hF; intro a hF
       refine l_at hF rfl rfl rfl (x_faddrA ((hH.rd 901 rfl)) (by omega) _ Tryd.underlying99 rfl ty28 (by decide) (hF.tmp 58 rfl) rfl) ?_; clear hF; intro a hF
       refine l_at hF rfl rfl rfl (x_load1 ty28 (hF.tmp 59 rfl) (hH.holds 1501 _ rfl)) ?_; clear hF; intro a hF
       refine wpList_plain rfl fun K hK => ?_
       refine w_append 4 1001 (xs := ((encI (xs.take k)) ++ ([(gf xs (k : Int)).1, ((gf xs (k : Int)).2.length : Int) / 256, ((gf xs (k : Int)).2.length : Int) % 256]))) (ys := ((gf xs (k : Int)).2)) hF hH rfl Tryd.underlying28 ty5 rfl rfl rfl rfl ((hH.rd 1001 rfl)) (by intro k_ hk_; exact .inr hk_) (hF.tmp 55 rfl) (hF.tmp 60 rfl) (by simp only [List.length_append, List.length_cons, List.length_nil] at *; omega) (by simp only [List.length_append, List.length_cons, List.length_nil, maxLen] at *; omega) (fun _ => False) (fun w' v' h => row_flat h _) (fun k_ hk_ => hk_.elim) ?_
       clear hF hH; intro a w v61 hF hH
       refine hK _ _ ?_; clear hK K
       refine l_at hF rfl rfl rfl (x_assign (hF.tmp 61 rfl)) ?_; clear hF; intro a hF
       refine wpList_nil ?_
       refine hK10 _ _ ?_
       refine wp_region_lit ?_
       refine l_at hF rfl rfl rfl (x_move (hF.tmp 5 rfl)) ?_; clear hF; intro a hF
       refine l_at hF rfl rfl rfl (x_add (hF.tmp 14 rfl) rfl (w64 (by omega) (by omega))) ?_; clear hF; intro a hF
       refine l_at hF rfl rfl rfl (x_assign (hF.tmp 15 rfl)) ?_; clear hF; intro a hF
       refine wpList_nil ?_
       have hHs : Hp (fun _ => False) w0 w [(901, .rd_ FE A xs c (fun k => k < w0.heap.size)), (4, .row (.int .u8) 5 v61 ((encI (xs.take k) ++ [(gf xs (k : Int)).1, ((gf xs (k : Int)).2.length : Int) / 256, ((gf xs (k : Int)).2.length : Int) % 256]) ++ (gf xs (k : Int)).2) (fun _ => False))] := hH.sub _ (sub_cons (sub_cons (sub_nil _) 4 rfl) 901 rfl)
       rw [encI_step hc13] at hHs
       exact ⟨_, by omega, ⟨k + 1, v61, rfl, by omega, all_step hc13 hq0_1 hc28 hc36 hc39, len_step hc13 hq0_2 hc39, (((hF.bare.add hF 5 rfl).add hF 4 rfl).add hF 0 rfl), hHs⟩⟩
   ·have hk13_6 := hc13; try simp only [Bool.or_eq_true, Bool.and_eq_true, Bool.or_eq_false_iff, Bool.and_eq_false_iff, Bool.not_eq_true', Bool.not_eq_false', decide_eq_true_eq, decide_eq_false_iff_not, Bool.not_true, Bool.not_false] at hc13
    obtain rfl : k = xs.length := by omega
    rw [List.take_length] at hq0_1
    have hsome := encR_all hc9 hq0_1
    refine wp_exit ?_
    refine hK6 _ _ ?_
    refine wp_seq_k fun khK18 hK18 => ?_
    refine wp_region_lit ?_
    refine l_at hF rfl rfl rfl (x_move (hF.tmp 4 rfl)) ?_; clear hF; intro a hF
    refine l_at hF rfl rfl rfl (x_assign (hF.tmp 62 rfl)) ?_; clear hF; intro a hF
    refine l_at hF rfl rfl rfl (x_assign rfl) ?_; clear hF; intro a hF
    refine wpList_nil ?_
    refine hK18 _ _ ?_
    refine wp_ret ?_
    try simp only [Exit.then, Exit.inBlock]
    rw [List.take_length] at hH
    exact fin_ret hF (res2 hF rfl rfl rfl) ⟨_, by rw [hsome]; rfl, hH.mods, by rw [hsome]; exact Hp.out hH 4 rfl⟩
end Go.Proofs.YtiiklnghnifmjaaDoor.Cod
