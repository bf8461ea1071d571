import Derived.Test.YtjcpjkdadigkpaaCrcD
import Derived.Test.YtjcpjkdadigkpaaProg
set_option linter.unusedVariables false
set_option linter.unusedSimpArgs false
namespace Go.Proofs.Ytjcpjkdadigkpaa.Crc
open Go.RowKit Go.Proofs.Ytjcpjkdadigkpaa.Sx
theorem ty5 : TyI Try.prog 5 (.int .u8 0) 1 1 false := ⟨by kernel_rfl, _, Try.underlying5, rfl⟩
theorem ty22 : TyI Try.prog 22 (.slice none 0 0) 1 24 false := ⟨by kernel_rfl, _, Try.underlying22, rfl⟩
theorem ty26 : TyI Try.prog 26 (.int .u32 0) 1 4 false := ⟨by kernel_rfl, _, Try.underlying26, rfl⟩
theorem ty59 : TyI Try.prog 59 (.agg #[.int .u32 0, .int .u32 0, .int .u32 0, .int .u32 0, .int .u32 0, .int .u32 0, .int .u32 0, .int .u32 0, .int .u32 0, .int .u32 0, .int .u32 0, .int .u32 0, .int .u32 0, .int .u32 0, .int .u32 0, .int .u32 0]) 16 64 true := ⟨by kernel_rfl, _, Try.underlying59, rfl⟩
set_option maxHeartbeats 400000 in
theorem table_calls (w0 : World) : Calls Try.prog 29 #[] w0 fun e w' => e = .returned (.agg (tabArr 16)) ∧ Mods (fun _ => False) w0 w' := by
  refine calls_of_wp Try.func29 rfl ?_
  have hF := Fr.enter #[] 23 (slotsOf [] 0) (Nat.le_of_ble_eq_true rfl) (fun i v h => by have h2 := (get_slotsOf _ 0 i v h).2; simpa only [List.getElem?_toArray, Nat.sub_zero] using h2)
  have hH := Hp.nil (fun _ => False) w0
  rw [Try.ntmps29]
  revert hF; generalize (⟨(#[] : Array Value) ++ Array.replicate (23 - (#[] : Array Value).size) undef, []⟩ : Act) = a; intro hF
  refine wp_seq_k fun khK1 hK1 => ?_
  refine wp_region_lit ?_
  refine wpList_plain rfl fun K hK => ?_
  refine w_alloc 0 hF hH rfl ty59 ?_
  clear hF hH; intro a w b0 hF hH
  refine hK _ _ ?_; clear hK K
  refine wpList_nil ?_
  refine hK1 _ _ ?_
  refine wp_seq_k fun khK2 hK2 => ?_
  refine wp_region_lit ?_
  refine wpList_plain rfl fun K hK => ?_
  refine w_alloc 1 hF hH rfl ty59 ?_
  clear hF hH; intro a w b1 hF hH
  refine hK _ _ ?_; clear hK K
  refine wpList_nil ?_
  refine hK2 _ _ ?_
  refine wp_seq_k fun khK3 hK3 => ?_
  refine wp_seq_k fun khK4 hK4 => ?_
  refine wp_region_lit ?_
  refine l_at hF rfl rfl rfl (x_move rfl) ?_; clear hF; intro a hF
  refine wpList_nil ?_
  refine hK4 _ _ ?_
  refine wp_block ?_
  refine wp_loop_ghost (fun n_ a w => ∃ k : Nat, n_ = 16 - k ∧ (k ≤ 16) ∧ Fr 23 a [(0, .pointer (some ⟨b0, 0, none⟩)), (1, .pointer (some ⟨b1, 0, none⟩)), (4, .int .u32 (k : Int))] ∧ Hp (fun _ => False) w0 w [(0, .blk b0 (.cells tabZ 59 (0, 0))), (1, .blk b1 (.cells (tabArr k) 59 (0, 0)))]) (16) ?_ ?_
  · exact ⟨0, rfl, by omega, (((hF.bare.add hF 4 rfl).add hF 1 rfl).add hF 0 rfl), hH.sub _ (sub_cons (sub_cons (sub_nil _) 1 rfl) 0 rfl)⟩
  · rintro _ a w ⟨k, rfl, hq0_0, hF, hH⟩
    refine wp_seq_k fun khK5 hK5 => ?_
    refine wp_region_lit ?_
    refine l_at hF rfl rfl rfl (x_lss (hF.tmp 4 rfl) rfl) ?_; clear hF; intro a hF
    refine wpList_nil ?_
    refine hK5 _ _ ?_
    refine wp_seq_k fun khK6 hK6 => ?_
    refine wp_cond_split (hF.tmp 5 rfl) (fun hc5 => ?_) (fun hc5 => ?_)
    · try simp only [Bool.or_eq_true, Bool.and_eq_true, Bool.or_eq_false_iff, Bool.and_eq_false_iff, Bool.not_eq_true', Bool.not_eq_false', decide_eq_true_eq, decide_eq_false_iff_not, Bool.not_true, Bool.not_false] at hc5
      refine wp_skip ?_
      refine hK6 _ _ ?_
      refine wp_seq_k fun khK7 hK7 => ?_
      refine wp_block ?_
      refine wp_seq_k fun khK8 hK8 => ?_
      refine wp_region_lit ?_
      refine l_at hF rfl rfl rfl (x_move (hF.tmp 4 rfl)) ?_; clear hF; intro a hF
      refine l_at hF rfl rfl rfl (x_assign (hF.tmp 6 rfl)) ?_; clear hF; intro a hF
      refine wpList_nil ?_
      refine hK8 _ _ ?_
      refine wp_seq_k fun khK9 hK9 => ?_
      refine wp_region_lit ?_
      refine l_at hF rfl rfl rfl (x_move (hF.tmp 2 rfl)) ?_; clear hF; intro a hF
      refine l_at hF rfl rfl rfl (x_assign (hF.tmp 7 rfl)) ?_; clear hF; intro a hF
      refine wpList_nil ?_
      refine hK9 _ _ ?_
      refine wp_seq_k fun khK10 hK10 => ?_
      refine wp_seq_k fun khK11 hK11 => ?_
      refine wp_region_lit ?_
      refine l_at hF rfl rfl rfl (x_move rfl) ?_; clear hF; intro a hF
      refine wpList_nil ?_
      refine hK11 _ _ ?_
      refine wp_block ?_
      refine wp_loop_ghost (fun n_ a w => ∃ i : Nat, n_ = 4 - i ∧ (i ≤ 4) ∧ Fr 23 a [(0, .pointer (some ⟨b0, 0, none⟩)), (1, .pointer (some ⟨b1, 0, none⟩)), (2, .int .u32 (k : Int)), (3, .int .u32 (stp i k)), (4, .int .u32 (k : Int)), (8, .int .i64 (i : Int))] ∧ Hp (fun _ => False) w0 w [(0, .blk b0 (.cells tabZ 59 (0, 0))), (1, .blk b1 (.cells (tabArr k) 59 (0, 0)))]) (4) ?_ ?_
      · exact ⟨0, rfl, by omega, ((((((hF.bare.add hF 8 rfl).add hF 4 rfl).add hF 3 rfl).add hF 2 rfl).add hF 1 rfl).add hF 0 rfl), hH.sub _ (sub_cons (sub_cons (sub_nil _) 1 rfl) 0 rfl)⟩
      · rintro _ a w ⟨i, rfl, hq2_0, hF, hH⟩
        refine wp_seq_k fun khK12 hK12 => ?_
        refine wp_region_lit ?_
        refine l_at hF rfl rfl rfl (x_lss (hF.tmp 8 rfl) rfl) ?_; clear hF; intro a hF
        refine wpList_nil ?_
        refine hK12 _ _ ?_
        refine wp_seq_k fun khK13 hK13 => ?_
        refine wp_cond_split (hF.tmp 9 rfl) (fun hc9 => ?_) (fun hc9 => ?_)
        · try simp only [Bool.or_eq_true, Bool.and_eq_true, Bool.or_eq_false_iff, Bool.and_eq_false_iff, Bool.not_eq_true', Bool.not_eq_false', decide_eq_true_eq, decide_eq_false_iff_not, Bool.not_true, Bool.not_false] at hc9
          refine wp_skip ?_
          refine hK13 _ _ ?_
          refine wp_seq_k fun khK14 hK14 => ?_
          refine wp_block ?_
          refine wp_region_lit ?_
          refine l_at hF rfl rfl rfl (x_move (hF.tmp 3 rfl)) ?_; clear hF; intro a hF
          refine l_at hF rfl rfl rfl (x_shr (hF.tmp 10 rfl) rfl (by omega) rfl) ?_; clear hF; intro a hF
          refine l_at hF rfl rfl rfl (x_move (hF.tmp 3 rfl)) ?_; clear hF; intro a hF
          refine l_at hF rfl rfl rfl (x_bits (by simp) (hF.tmp 12 rfl) rfl rfl) ?_; clear hF; intro a hF
          refine l_at hF rfl rfl rfl (x_neg (hF.tmp 13 rfl) rfl) ?_; clear hF; intro a hF
          refine l_at hF rfl rfl rfl (x_bits (by simp) (hF.tmp 14 rfl) rfl rfl) ?_; clear hF; intro a hF
          refine l_at hF rfl rfl rfl (x_bits (by simp) (hF.tmp 11 rfl) (hF.tmp 15 rfl) rfl) ?_; clear hF; intro a hF
          refine l_at hF rfl rfl rfl (x_assign (hF.tmp 16 rfl)) ?_; clear hF; intro a hF
          refine wpList_nil ?_
          refine hK14 _ _ ?_
          refine wp_region_lit ?_
          refine l_at hF rfl rfl rfl (x_add (hF.tmp 8 rfl) rfl (w64 (by omega) (by omega))) ?_; clear hF; intro a hF
          refine l_at hF rfl rfl rfl (x_move (hF.tmp 17 rfl)) ?_; clear hF; intro a hF
          refine wpList_nil ?_
          exact ⟨_, by omega, ⟨i + 1, rfl, by omega, ((((((hF.bare.add hF 8 rfl).add hF 4 rfl).add hF 3 rfl).add hF 2 rfl).add hF 1 rfl).add hF 0 rfl), hH.sub _ (sub_cons (sub_cons (sub_nil _) 1 rfl) 0 rfl)⟩⟩
        · try simp only [Bool.or_eq_true, Bool.and_eq_true, Bool.or_eq_false_iff, Bool.and_eq_false_iff, Bool.not_eq_true', Bool.not_eq_false', decide_eq_true_eq, decide_eq_false_iff_not, Bool.not_true, Bool.not_false] at hc9
          obtain rfl : i = 4 := by omega
          refine wp_exit ?_
          refine hK10 _ _ ?_
          refine wp_region_lit ?_
          refine l_at hF rfl rfl rfl (x_move (hF.tmp 2 rfl)) ?_; clear hF; intro a hF
          refine l_at hF rfl rfl rfl (x_move (hF.tmp 3 rfl)) ?_; clear hF; intro a hF
          refine l_at hF rfl rfl rfl (x_iaddr_arr Try.underlying59 ty26 (hF.tmp 1 rfl) (hF.tmp 18 rfl) (by omega) (by omega)) ?_; clear hF; intro a hF
          refine wpList_plain rfl fun K hK => ?_
          refine w_store 1 hH ty26 rfl (hF.tmp 20 rfl) (hF.tmp 19 rfl) rfl (one1 rfl rfl) (by rw [tabArr_size]; omega) ?_
          clear hH; intro w hH
          refine hK _ _ ?_; clear hK K
          refine wpList_nil ?_
          refine hK7 _ _ ?_
          refine wp_region_lit ?_
          refine l_at hF rfl rfl rfl (x_add (hF.tmp 4 rfl) rfl (wu32 (by omega) (by omega))) ?_; clear hF; intro a hF
          refine l_at hF rfl rfl rfl (x_move (hF.tmp 21 rfl)) ?_; clear hF; intro a hF
          refine wpList_nil ?_
          have hstep : Hp (fun _ => False) w0 w [(0, .blk b0 (.cells tabZ 59 (0, 0))), (1, .blk b1 (.cells (tabArr (k + 1)) 59 (0, 0)))] := by
            have h2 : Hp (fun _ => False) w0 w [(0, .blk b0 (.cells tabZ 59 (0, 0))), (1, .blk b1 (.cells (spl (tabArr k) (0 + (k : Int).toNat * 1) #[.int .u32 (stp 4 k)]) 59 (0, 0)))] := hH.sub _ (sub_cons (sub_cons (sub_nil _) 1 rfl) 0 rfl)
            rwa [tab_step k hc5] at h2
          exact ⟨_, by omega, ⟨k + 1, rfl, by omega, (((hF.bare.add hF 4 rfl).add hF 1 rfl).add hF 0 rfl), hstep⟩⟩
    · try simp only [Bool.or_eq_true, Bool.and_eq_true, Bool.or_eq_false_iff, Bool.and_eq_false_iff, Bool.not_eq_true', Bool.not_eq_false', decide_eq_true_eq, decide_eq_false_iff_not, Bool.not_true, Bool.not_false] at hc5
      obtain rfl : k = 16 := by omega
      refine wp_exit ?_
      refine hK3 _ _ ?_
      refine wp_seq_k fun khK15 hK15 => ?_
      refine wp_region_lit ?_
      refine l_at hF rfl rfl rfl (x_loadn ty59 (hF.tmp 1 rfl) (tabArr_size 16) (blk_whole (hH.at 1 rfl))) ?_; clear hF; intro a hF
      refine wpList_plain rfl fun K hK => ?_
      refine w_storeA 0 hH ty59 rfl (hF.tmp 0 rfl) (hF.tmp 22 rfl) (tabArr_size 16) (tab_one 16) rfl ?_
      clear hH; intro w hH
      refine hK _ _ ?_; clear hK K
      refine wpList_nil ?_
      refine hK15 _ _ ?_
      refine wp_ret ?_
      try simp only [Exit.then, Exit.inBlock]
      exact fin_ret hF (resc hF rfl rfl (hH.at 0 rfl) ty59 (tabArr_size 16)) ⟨rfl, hH.mods⟩

set_option maxHeartbeats 400000 in
theorem more_calls (w0 : World) (sum : Int) {ok : Nat → Prop} {A : Option Addr} {xs : List Int} {c : Nat} (hr : Rd (.int .u8) w0 ok A xs c) : Calls Try.prog 25 #[.int .u32 sum, .slice A xs.length c] w0 fun e w' => e = .returned (.int .u32 (moreI sum xs)) ∧ Mods (fun _ => False) w0 w' := by
  refine calls_of_wp Try.func25 rfl ?_
  have hF := Fr.enter #[.int .u32 sum, .slice A xs.length c] 39 (slotsOf [.int .u32 sum, .slice A xs.length c] 0) (Nat.le_of_ble_eq_true rfl) (fun i v h => by have h2 := (get_slotsOf _ 0 i v h).2; simpa only [List.getElem?_toArray, Nat.sub_zero] using h2)
  have hH := Hp.nil (fun _ => False) w0
  rw [Try.ntmps25]
  revert hF; generalize (⟨(#[.int .u32 sum, .slice A xs.length c] : Array Value) ++ Array.replicate (39 - (#[.int .u32 sum, .slice A xs.length c] : Array Value).size) undef, []⟩ : Act) = a; intro hF
  have hH := hH.arg 901 hr.all (fun _ h => ⟨h, fun h => h⟩)
  have hle := hr.le; unfold maxLen at hle
  refine wp_seq_k fun khK1 hK1 => ?_
  refine wp_region_lit ?_
  refine l_at hF rfl rfl rfl (x_assign rfl) ?_; clear hF; intro a hF
  refine wpList_nil ?_
  refine hK1 _ _ ?_
  refine wp_seq_k fun khK2 hK2 => ?_
  refine wp_region_lit ?_
  refine wpList_plain rfl fun K hK => ?_
  refine w_call hF (x_enter Try.func29 (by kernel_rfl) rfl (by simp only [List.map_toArray, List.map_cons, List.map_nil] <;> rfl)) (table_calls _) rfl rfl ?_
  rintro _ w ⟨rfl, hm_⟩; refine ⟨_, rfl, ?_⟩; clear hF; intro a hF; have hH := hH.same hm_
  refine hK _ _ ?_; clear hK K
  refine wpList_plain rfl fun K hK => ?_
  refine w_alloc 5 hF hH rfl ty59 ?_
  clear hF hH; intro a w b5 hF hH
  refine hK _ _ ?_; clear hK K
  refine wpList_plain rfl fun K hK => ?_
  refine w_storeA 5 hH ty59 rfl (hF.tmp 5 rfl) (hF.tmp 9 rfl) (tabArr_size 16) (tab_one 16) rfl ?_
  clear hH; intro w hH
  refine hK _ _ ?_; clear hK K
  refine wpList_nil ?_
  refine hK2 _ _ ?_
  refine wp_seq_k fun khK3 hK3 => ?_
  refine wp_region_lit ?_
  refine l_at hF rfl rfl rfl (x_move (hF.tmp 0 rfl)) ?_; clear hF; intro a hF
  refine l_at hF rfl rfl rfl (x_cpl (hF.tmp 10 rfl) rfl) ?_; clear hF; intro a hF
  refine l_at hF rfl rfl rfl (x_assign (hF.tmp 11 rfl)) ?_; clear hF; intro a hF
  refine wpList_nil ?_
  refine hK3 _ _ ?_
  refine wp_seq_k fun khK4 hK4 => ?_
  refine wp_seq_k fun khK5 hK5 => ?_
  refine wp_region_lit ?_
  refine l_at hF rfl rfl rfl (x_move (hF.tmp 1 rfl)) ?_; clear hF; intro a hF
  refine l_at hF rfl rfl rfl (x_len_slice Try.underlying22 (hF.tmp 12 rfl)) ?_; clear hF; intro a hF
  refine l_at hF rfl rfl rfl (x_move rfl) ?_; clear hF; intro a hF
  refine wpList_nil ?_
  refine hK5 _ _ ?_
  refine wp_block ?_
  refine wp_loop_ghost (fun n_ a w => ∃ i : Nat, n_ = xs.length - i ∧ (i ≤ xs.length) ∧ Fr 39 a [(5, .pointer (some ⟨b5, 0, none⟩)), (6, .int .u32 ((xs.take i).foldl byteI (cpl sum))), (12, .slice A xs.length c), (13, .int .i64 (xs.length : Int)), (14, .int .i64 (i : Int))] ∧ Hp (fun _ => False) w0 w [(901, .rd_ (.int .u8) A xs c (fun k => k < w0.heap.size)), (5, .blk b5 (.cells (tabArr 16) 59 (0, 0)))]) (xs.length) ?_ ?_
  · exact ⟨0, rfl, by omega, (((((hF.bare.add hF 14 rfl).add hF 13 rfl).add hF 12 rfl).add hF 6 rfl).add hF 5 rfl), hH.sub _ (sub_cons (sub_cons (sub_nil _) 5 rfl) 901 rfl)⟩
  · rintro _ a w ⟨i, rfl, hq0_0, hF, hH⟩
    refine wp_seq_k fun khK6 hK6 => ?_
    refine wp_region_lit ?_
    refine l_at hF rfl rfl rfl (x_lss (hF.tmp 14 rfl) (hF.tmp 13 rfl)) ?_; clear hF; intro a hF
    refine wpList_nil ?_
    refine hK6 _ _ ?_
    refine wp_seq_k fun khK7 hK7 => ?_
    refine wp_cond_split (hF.tmp 15 rfl) (fun hc15 => ?_) (fun hc15 => ?_)
    · try simp only [Bool.or_eq_true, Bool.and_eq_true, Bool.or_eq_false_iff, Bool.and_eq_false_iff, Bool.not_eq_true', Bool.not_eq_false', decide_eq_true_eq, decide_eq_false_iff_not, Bool.not_true, Bool.not_false] at hc15
      refine wp_skip ?_
      refine hK7 _ _ ?_
      refine wp_seq_k fun khK8 hK8 => ?_
      refine wp_block ?_
      refine wp_seq_k fun khK9 hK9 => ?_
      refine wp_region_lit ?_
      refine l_at hF rfl rfl rfl (x_iaddr_A Try.underlying22 ty5 ((hH.rd 901 rfl)) (hF.tmp 12 rfl) (hF.tmp 14 rfl) (by omega) (by omega) _) ?_; clear hF; intro a hF
      refine l_at hF rfl rfl rfl (x_load1 ty5 (hF.tmp 16 rfl) (((hH.rd 901 rfl)).cellA (gi_some (i := (i : Int)) (by omega) (by omega)))) ?_; clear hF; intro a hF
      refine l_at hF rfl rfl rfl (x_assign (hF.tmp 17 rfl)) ?_; clear hF; intro a hF
      refine wpList_nil ?_
      refine hK9 _ _ ?_
      refine wp_seq_k fun khK10 hK10 => ?_
      refine wp_region_lit ?_
      refine l_at hF rfl rfl rfl (x_move (hF.tmp 6 rfl)) ?_; clear hF; intro a hF
      refine l_at hF rfl rfl rfl (x_move (hF.tmp 8 rfl)) ?_; clear hF; intro a hF
      refine l_at hF rfl rfl rfl (x_conv Try.underlying26 ⟨_, Try.underlying5⟩ (hF.tmp 19 rfl) rfl) ?_; clear hF; intro a hF
      refine l_at hF rfl rfl rfl (x_bits (by simp) (hF.tmp 18 rfl) (hF.tmp 20 rfl) rfl) ?_; clear hF; intro a hF
      refine l_at hF rfl rfl rfl (x_assign (hF.tmp 21 rfl)) ?_; clear hF; intro a hF
      refine wpList_nil ?_
      refine hK10 _ _ ?_
      refine wp_seq_k fun khK11 hK11 => ?_
      refine wp_region_lit ?_
      refine l_at hF rfl rfl rfl (x_move (hF.tmp 6 rfl)) ?_; clear hF; intro a hF
      refine l_at hF rfl rfl rfl (x_shr (hF.tmp 22 rfl) rfl (by omega) rfl) ?_; clear hF; intro a hF
      refine l_at hF rfl rfl rfl (x_move (hF.tmp 6 rfl)) ?_; clear hF; intro a hF
      refine l_at hF rfl rfl rfl (x_bits (by simp) (hF.tmp 24 rfl) rfl rfl) ?_; clear hF; intro a hF
      refine l_at hF rfl rfl rfl (x_iaddr_arr Try.underlying59 ty26 (hF.tmp 5 rfl) (hF.tmp 25 rfl) (and15_lo _) (and15_hi _)) ?_; clear hF; intro a hF
      refine l_at hF rfl rfl rfl (x_load1 ty26 (hF.tmp 26 rfl) (blk_cell (hH.at 5 rfl) _ (tabArr_at (and15_lo _) (and15_hi _)))) ?_; clear hF; intro a hF
      refine l_at hF rfl rfl rfl (x_bits (by simp) (hF.tmp 23 rfl) (hF.tmp 27 rfl) rfl) ?_; clear hF; intro a hF
      refine l_at hF rfl rfl rfl (x_assign (hF.tmp 28 rfl)) ?_; clear hF; intro a hF
      refine wpList_nil ?_
      refine hK11 _ _ ?_
      refine wp_region_lit ?_
      refine l_at hF rfl rfl rfl (x_move (hF.tmp 6 rfl)) ?_; clear hF; intro a hF
      refine l_at hF rfl rfl rfl (x_shr (hF.tmp 29 rfl) rfl (by omega) rfl) ?_; clear hF; intro a hF
      refine l_at hF rfl rfl rfl (x_move (hF.tmp 6 rfl)) ?_; clear hF; intro a hF
      refine l_at hF rfl rfl rfl (x_bits (by simp) (hF.tmp 31 rfl) rfl rfl) ?_; clear hF; intro a hF
      refine l_at hF rfl rfl rfl (x_iaddr_arr Try.underlying59 ty26 (hF.tmp 5 rfl) (hF.tmp 32 rfl) (and15_lo _) (and15_hi _)) ?_; clear hF; intro a hF
      refine l_at hF rfl rfl rfl (x_load1 ty26 (hF.tmp 33 rfl) (blk_cell (hH.at 5 rfl) _ (tabArr_at (and15_lo _) (and15_hi _)))) ?_; clear hF; intro a hF
      refine l_at hF rfl rfl rfl (x_bits (by simp) (hF.tmp 30 rfl) (hF.tmp 34 rfl) rfl) ?_; clear hF; intro a hF
      refine l_at hF rfl rfl rfl (x_assign (hF.tmp 35 rfl)) ?_; clear hF; intro a hF
      refine wpList_nil ?_
      refine hK8 _ _ ?_
      refine wp_region_lit ?_
      refine l_at hF rfl rfl rfl (x_add (hF.tmp 14 rfl) rfl (w64 (by omega) (by omega))) ?_; clear hF; intro a hF
      refine l_at hF rfl rfl rfl (x_move (hF.tmp 36 rfl)) ?_; clear hF; intro a hF
      refine wpList_nil ?_
      have hFs : Fr 39 a [(5, .pointer (some ⟨b5, 0, none⟩)), (6, .int .u32 (byteI ((xs.take i).foldl byteI (cpl sum)) (gi xs i))), (12, .slice A xs.length c), (13, .int .i64 (xs.length : Int)), (14, .int .i64 ((i + 1 : Nat) : Int))] := (((((hF.bare.add hF 14 rfl).add hF 13 rfl).add hF 12 rfl).add hF 6 rfl).add hF 5 rfl)
      rw [← fold_step hc15] at hFs
      exact ⟨_, by omega, ⟨i + 1, rfl, by omega, hFs, hH.sub _ (sub_cons (sub_cons (sub_nil _) 5 rfl) 901 rfl)⟩⟩
    · try simp only [Bool.or_eq_true, Bool.and_eq_true, Bool.or_eq_false_iff, Bool.and_eq_false_iff, Bool.not_eq_true', Bool.not_eq_false', decide_eq_true_eq, decide_eq_false_iff_not, Bool.not_true, Bool.not_false] at hc15
      obtain rfl : i = xs.length := by omega
      rw [List.take_length] at hF
      refine wp_exit ?_
      refine hK4 _ _ ?_
      refine wp_seq_k fun khK12 hK12 => ?_
      refine wp_region_lit ?_
      refine l_at hF rfl rfl rfl (x_move (hF.tmp 6 rfl)) ?_; clear hF; intro a hF
      refine l_at hF rfl rfl rfl (x_cpl (hF.tmp 37 rfl) rfl) ?_; clear hF; intro a hF
      refine l_at hF rfl rfl rfl (x_assign (hF.tmp 38 rfl)) ?_; clear hF; intro a hF
      refine wpList_nil ?_
      refine hK12 _ _ ?_
      refine wp_ret ?_
      try simp only [Exit.then, Exit.inBlock]
      exact fin_ret hF (res1 hF rfl rfl) ⟨rfl, hH.mods⟩

set_option maxHeartbeats 400000 in
theorem sum_calls (w0 : World) {ok : Nat → Prop} {A : Option Addr} {xs : List Int} {c : Nat} (hr : Rd (.int .u8) w0 ok A xs c) : Calls Try.prog 12 #[.slice A xs.length c] w0 fun e w' => e = .returned (.int .u32 (moreI 0 xs)) ∧ Mods (fun _ => False) w0 w' := by
  refine calls_of_wp Try.func12 rfl ?_
  have hF := Fr.enter #[.slice A xs.length c] 5 (slotsOf [.slice A xs.length c] 0) (Nat.le_of_ble_eq_true rfl) (fun i v h => by have h2 := (get_slotsOf _ 0 i v h).2; simpa only [List.getElem?_toArray, Nat.sub_zero] using h2)
  have hH := Hp.nil (fun _ => False) w0
  rw [Try.ntmps12]
  revert hF; generalize (⟨(#[.slice A xs.length c] : Array Value) ++ Array.replicate (5 - (#[.slice A xs.length c] : Array Value).size) undef, []⟩ : Act) = a; intro hF
  have hH := hH.arg 901 hr.all (fun _ h => ⟨h, fun h => h⟩)
  refine wp_seq_k fun khK1 hK1 => ?_
  refine wp_region_lit ?_
  refine l_at hF rfl rfl rfl (x_assign rfl) ?_; clear hF; intro a hF
  refine wpList_nil ?_
  refine hK1 _ _ ?_
  refine wp_seq_k fun khK2 hK2 => ?_
  refine wp_region_lit ?_
  refine l_at hF rfl rfl rfl (x_move (hF.tmp 0 rfl)) ?_; clear hF; intro a hF
  refine wpList_plain rfl fun K hK => ?_
  refine w_call hF (x_enter Try.func25 (by kernel_rfl) rfl (by simp only [List.map_toArray, List.map_cons, List.map_nil, hF.tmp 3 rfl] <;> rfl)) (more_calls _ 0 (hH.rd 901 rfl)) rfl rfl ?_
  rintro _ w ⟨rfl, hm_⟩; refine ⟨_, rfl, ?_⟩; clear hF; intro a hF; have hH := hH.same hm_
  refine hK _ _ ?_; clear hK K
  refine l_at hF rfl rfl rfl (x_assign (hF.tmp 4 rfl)) ?_; clear hF; intro a hF
  refine wpList_nil ?_
  refine hK2 _ _ ?_
  refine wp_ret ?_
  try simp only [Exit.then, Exit.inBlock]
  exact fin_ret hF (res1 hF rfl rfl) ⟨rfl, hH.mods⟩

set_option maxHeartbeats 400000 in
theorem alive_calls (w0 : World) : Calls Try.prog 11 #[] w0 fun e w' => e = .returned (.bool true) ∧ Mods (fun _ => False) w0 w' := by
  refine calls_of_wp Try.func11 rfl ?_
  have hF := Fr.enter #[] 9 (slotsOf [] 0) (Nat.le_of_ble_eq_true rfl) (fun i v h => by have h2 := (get_slotsOf _ 0 i v h).2; simpa only [List.getElem?_toArray, Nat.sub_zero] using h2)
  have hH := Hp.nil (fun _ => False) w0
  rw [Try.ntmps11]
  revert hF; generalize (⟨(#[] : Array Value) ++ Array.replicate (9 - (#[] : Array Value).size) undef, []⟩ : Act) = a; intro hF
  refine wp_seq_k fun khK1 hK1 => ?_
  refine wp_region_lit ?_
  refine l_at hF rfl rfl rfl (x_assign rfl) ?_; clear hF; intro a hF
  refine wpList_nil ?_
  refine hK1 _ _ ?_
  refine wp_seq_k fun khK2 hK2 => ?_
  refine wp_region_lit ?_
  refine wpList_plain rfl fun K hK => ?_
  refine w_lit 1 (enc := Value.int .u8) (h1 := fun _ => rfl) ([49, 50, 51, 52, 53, 54, 55, 56, 57] : List Int) hF hH rfl Try.underlying22 ty5 rfl rfl (by decide) (by decide) (by kernel_rfl) ?_
  clear hF hH; intro a w b1 hF hH
  refine hK _ _ ?_; clear hK K
  refine wpList_plain rfl fun K hK => ?_
  refine w_mark 1 hF hH rfl Try.underlying22 Try.underlying5 rfl (hF.tmp 1 rfl) ?_
  clear hF hH; intro a w hF hH
  refine hK _ _ ?_; clear hK K
  refine wpList_plain rfl fun K hK => ?_
  refine w_call hF (x_enter Try.func12 (by kernel_rfl) rfl (by simp only [List.map_toArray, List.map_cons, List.map_nil, hF.tmp 2 rfl] <;> rfl)) (sum_calls _ ((hH.rd 1 rfl))) rfl rfl ?_
  rintro _ w ⟨rfl, hm_⟩; refine ⟨_, rfl, ?_⟩; clear hF; intro a hF; have hH := hH.same hm_
  refine hK _ _ ?_; clear hK K
  refine l_at hF rfl rfl rfl (x_eql (hF.tmp 3 rfl) rfl) ?_; clear hF; intro a hF
  rw [decide_eq_true sum_123456789] at hF
  refine l_at hF rfl rfl rfl (x_move (hF.tmp 4 rfl)) ?_; clear hF; intro a hF
  refine wpList_on ((wanted_of hF rfl rfl rfl rfl).trans rfl) fun K hK => ?_
  refine w_call hF (x_enter Try.func12 (by kernel_rfl) rfl (by simp only [List.map_toArray, List.map_cons, List.map_nil] <;> rfl)) (sum_calls _ (Rd.nil (.int .u8) _ (fun _ => False))) rfl rfl ?_
  rintro _ w ⟨rfl, hm_⟩; refine ⟨_, rfl, ?_⟩; clear hF; intro a hF; have hH := hH.same hm_
  refine hK _ _ ?_; clear hK K
  refine l_atg hF ((wanted_of hF rfl rfl rfl rfl).trans rfl) rfl rfl (x_eql (hF.tmp 6 rfl) rfl) ?_; clear hF; intro a hF
  rw [decide_eq_true sum_nil] at hF
  refine l_at hF rfl rfl rfl (x_pickT (hF.tmp 5 rfl) rfl (hF.tmp 7 rfl)) ?_; clear hF; intro a hF
  refine l_at hF rfl rfl rfl (x_assign (hF.tmp 8 rfl)) ?_; clear hF; intro a hF
  refine wpList_nil ?_
  refine hK2 _ _ ?_
  refine wp_ret ?_
  try simp only [Exit.then, Exit.inBlock]
  exact fin_ret hF (res1 hF rfl rfl) ⟨rfl, hH.mods⟩

set_option maxHeartbeats 400000 in
theorem linear_calls (w0 : World) {ok : Nat → Prop} {A1 A2 A3 : Option Addr} {xa xb xc : List Int} {c1 c2 c3 : Nat} (hr1 : Rd (.int .u8) w0 ok A1 xa c1) (hr2 : Rd (.int .u8) w0 ok A2 xb c2) (hr3 : Rd (.int .u8) w0 ok A3 xc c3)
    (hlaw : ∀ n : Nat, n ≤ xa.length → n ≤ xb.length → n ≤ xc.length → bits .xor .u32 (bits .xor .u32 (moreI 0 (xa.take n)) (moreI 0 (xb.take n))) (moreI 0 (xc.take n)) = moreI 0 (xorI xa xb xc n)) : Calls Try.prog 4 #[.slice A1 xa.length c1, .slice A2 xb.length c2, .slice A3 xc.length c3] w0 fun e w' => e = .returned (.bool true) ∧ Mods (fun _ => False) w0 w' := by
  refine calls_of_wp Try.func4 rfl ?_
  have hF := Fr.enter #[.slice A1 xa.length c1, .slice A2 xb.length c2, .slice A3 xc.length c3] 62 (slotsOf [.slice A1 xa.length c1, .slice A2 xb.length c2, .slice A3 xc.length c3] 0) (Nat.le_of_ble_eq_true rfl) (fun i v h => by have h2 := (get_slotsOf _ 0 i v h).2; simpa only [List.getElem?_toArray, Nat.sub_zero] using h2)
  have hH := Hp.nil (fun _ => False) w0
  rw [Try.ntmps4]
  revert hF; generalize (⟨(#[.slice A1 xa.length c1, .slice A2 xb.length c2, .slice A3 xc.length c3] : Array Value) ++ Array.replicate (62 - (#[.slice A1 xa.length c1, .slice A2 xb.length c2, .slice A3 xc.length c3] : Array Value).size) undef, []⟩ : Act) = a; intro hF
  have hH := hH.arg 901 hr1.all (fun _ h => ⟨h, fun h => h⟩)
  have hH := hH.arg 902 hr2.all (fun _ h => ⟨h, fun h => h⟩)
  have hH := hH.arg 903 hr3.all (fun _ h => ⟨h, fun h => h⟩)
  have hle1 := hr1.le; unfold maxLen at hle1
  have hle2 := hr2.le; unfold maxLen at hle2
  have hle3 := hr3.le; unfold maxLen at hle3
  have hnA := mn_le (xa.length : Int) (xb.length : Int)
  have hnB := mn_le (mn (xa.length : Int) (xb.length : Int)) (xc.length : Int)
  have hn0 : ((0 : Nat) : Int) ≤ (mn (mn (xa.length : Int) (xb.length : Int)) (xc.length : Int)) := mn_nonneg _ _ (mn_nonneg _ _ (by omega) (by omega)) (by omega)
  have hn1 : (mn (mn (xa.length : Int) (xb.length : Int)) (xc.length : Int)) ≤ (xa.length : Int) := by omega
  have hn2 : (mn (mn (xa.length : Int) (xb.length : Int)) (xc.length : Int)) ≤ (xb.length : Int) := by omega
  have hn3 : (mn (mn (xa.length : Int) (xb.length : Int)) (xc.length : Int)) ≤ (xc.length : Int) := by omega
  refine wp_seq_k fun khK1 hK1 => ?_
  refine wp_region_lit ?_
  refine l_at hF rfl rfl rfl (x_assign rfl) ?_; clear hF; intro a hF
  refine wpList_nil ?_
  refine hK1 _ _ ?_
  refine wp_seq_k fun khK2 hK2 => ?_
  refine wp_region_lit ?_
  refine l_at hF rfl rfl rfl (x_move (hF.tmp 0 rfl)) ?_; clear hF; intro a hF
  refine l_at hF rfl rfl rfl (x_len_slice Try.underlying22 (hF.tmp 10 rfl)) ?_; clear hF; intro a hF
  refine l_at hF rfl rfl rfl (x_move (hF.tmp 1 rfl)) ?_; clear hF; intro a hF
  refine l_at hF rfl rfl rfl (x_len_slice Try.underlying22 (hF.tmp 12 rfl)) ?_; clear hF; intro a hF
  refine l_at hF rfl rfl rfl (x_move (hF.tmp 2 rfl)) ?_; clear hF; intro a hF
  refine l_at hF rfl rfl rfl (x_len_slice Try.underlying22 (hF.tmp 14 rfl)) ?_; clear hF; intro a hF
  refine l_at hF rfl rfl rfl (x_min3 (hF.tmp 11 rfl) (hF.tmp 13 rfl) (hF.tmp 15 rfl)) ?_; clear hF; intro a hF
  refine l_at hF rfl rfl rfl (x_assign (hF.tmp 16 rfl)) ?_; clear hF; intro a hF
  refine wpList_nil ?_
  refine hK2 _ _ ?_
  refine wp_seq_k fun khK3 hK3 => ?_
  refine wp_seq_k fun khK4 hK4 => ?_
  refine wp_region_lit ?_
  refine l_at hF rfl rfl rfl (x_move (hF.tmp 7 rfl)) ?_; clear hF; intro a hF
  refine l_at hF rfl rfl rfl (x_gtr (hF.tmp 17 rfl) rfl) ?_; clear hF; intro a hF
  refine wpList_nil ?_
  refine hK4 _ _ ?_
  refine wp_cond_split (hF.tmp 18 rfl) (fun hc18 => ?_) (fun hc18 => ?_)
  · try simp only [Bool.or_eq_true, Bool.and_eq_true, Bool.or_eq_false_iff, Bool.and_eq_false_iff, Bool.not_eq_true', Bool.not_eq_false', decide_eq_true_eq, decide_eq_false_iff_not, Bool.not_true, Bool.not_false] at hc18
    refine wp_seq_k fun khK5 hK5 => ?_
    refine wp_region_lit ?_
    refine wpList_plain rfl fun K hK => ?_
    refine w_call hF (x_enter Try.func11 (by kernel_rfl) rfl (by simp only [List.map_toArray, List.map_cons, List.map_nil] <;> rfl)) (alive_calls _) rfl rfl ?_
    rintro _ w ⟨rfl, hm_⟩; refine ⟨_, rfl, ?_⟩; clear hF; intro a hF; have hH := hH.same hm_
    refine hK _ _ ?_; clear hK K
    refine l_at hF rfl rfl rfl (x_assign (hF.tmp 19 rfl)) ?_; clear hF; intro a hF
    refine wpList_nil ?_
    refine hK5 _ _ ?_
    refine wp_ret ?_
    try simp only [Exit.then, Exit.inBlock]
    exact fin_ret hF (res1 hF rfl rfl) ⟨rfl, hH.mods⟩
  · try simp only [Bool.or_eq_true, Bool.and_eq_true, Bool.or_eq_false_iff, Bool.and_eq_false_iff, Bool.not_eq_true', Bool.not_eq_false', decide_eq_true_eq, decide_eq_false_iff_not, Bool.not_true, Bool.not_false] at hc18
    refine wp_skip ?_
    refine hK3 _ _ ?_
    refine wp_seq_k fun khK6 hK6 => ?_
    refine wp_region_lit ?_
    refine l_at hF rfl rfl rfl (x_assign rfl) ?_; clear hF; intro a hF
    have hH := hH.row0 8 (.int .u8) 5
    refine wpList_nil ?_
    refine hK6 _ _ ?_
    refine wp_seq_k fun khK7 hK7 => ?_
    refine wp_seq_k fun khK8 hK8 => ?_
    refine wp_region_lit ?_
    refine l_at hF rfl rfl rfl (x_assign rfl) ?_; clear hF; intro a hF
    refine wpList_nil ?_
    refine hK8 _ _ ?_
    refine wp_block ?_
    refine wp_loop_ghost (fun n_ a w => ∃ k : Nat, ∃ v8 : Value, n_ = 3000 - k ∧ ((k : Int) ≤ (mn (mn (xa.length : Int) (xb.length : Int)) (xc.length : Int))) ∧ Fr 62 a [(0, .slice A1 xa.length c1), (1, .slice A2 xb.length c2), (2, .slice A3 xc.length c3), (7, .int .i64 (mn (mn (xa.length : Int) (xb.length : Int)) (xc.length : Int))), (8, v8), (9, .int .i64 (k : Int))] ∧ Hp (fun _ => False) w0 w [(901, .rd_ (.int .u8) A1 xa c1 (fun k => k < w0.heap.size)), (902, .rd_ (.int .u8) A2 xb c2 (fun k => k < w0.heap.size)), (903, .rd_ (.int .u8) A3 xc c3 (fun k => k < w0.heap.size)), (8, .row (.int .u8) 5 v8 (xorI xa xb xc k) (fun _ => False))]) (3000) ?_ ?_
    · exact ⟨0, .slice none 0 0, rfl, hn0, ((((((hF.bare.add hF 9 rfl).add hF 8 rfl).add hF 7 rfl).add hF 2 rfl).add hF 1 rfl).add hF 0 rfl), hH.sub _ (sub_cons (sub_cons (sub_cons (sub_cons (sub_nil _) 8 rfl) 903 rfl) 902 rfl) 901 rfl)⟩
    · rintro _ a w ⟨k, v8, rfl, hq0_0, hF, hH⟩
      refine wp_seq_k fun khK9 hK9 => ?_
      refine wp_seq_k fun khK10 hK10 => ?_
      refine wp_region_lit ?_
      refine l_at hF rfl rfl rfl (x_move (hF.tmp 9 rfl)) ?_; clear hF; intro a hF
      refine l_at hF rfl rfl rfl (x_move (hF.tmp 7 rfl)) ?_; clear hF; intro a hF
      refine l_at hF rfl rfl rfl (x_lss (hF.tmp 20 rfl) (hF.tmp 21 rfl)) ?_; clear hF; intro a hF
      refine wpList_nil ?_
      refine hK10 _ _ ?_
      refine wp_cond_split (hF.tmp 22 rfl) (fun hc22 => ?_) (fun hc22 => ?_)
      · try simp only [Bool.or_eq_true, Bool.and_eq_true, Bool.or_eq_false_iff, Bool.and_eq_false_iff, Bool.not_eq_true', Bool.not_eq_false', decide_eq_true_eq, decide_eq_false_iff_not, Bool.not_true, Bool.not_false] at hc22
        refine wp_skip ?_
        refine hK9 _ _ ?_
        refine wp_seq_k fun khK11 hK11 => ?_
        refine wp_block ?_
        refine r_start [(901, .rd_ (.int .u8) A1 xa c1 (fun k => k < w0.heap.size)), (902, .rd_ (.int .u8) A2 xb c2 (fun k => k < w0.heap.size)), (903, .rd_ (.int .u8) A3 xc c3 (fun k => k < w0.heap.size))] (by kernel_rfl) hH fun hH => ?_
        have hS : SL [(901, .rd_ (.int .u8) A1 xa c1 (fun k => k < w0.heap.size)), (902, .rd_ (.int .u8) A2 xb c2 (fun k => k < w0.heap.size)), (903, .rd_ (.int .u8) A3 xc c3 (fun k => k < w0.heap.size))] _ := SL.of hH (sub_cons (sub_cons (sub_cons (sub_nil _) 903 rfl) 902 rfl) 901 rfl)
        refine r_take 0 hF rfl rfl rfl (by kernel_rfl) (by kernel_rfl) (by kernel_rfl) (fun _ _ _ h => h) rfl hS (fun w hS => x_move (hF.tmp 8 rfl)) rfl ?_; clear hF; intro a hF
        refine r_take 1 hF rfl rfl rfl (by kernel_rfl) (by kernel_rfl) (by kernel_rfl) (fun _ _ _ h => h) rfl hS (fun w hS => x_move (hF.tmp 0 rfl)) rfl ?_; clear hF; intro a hF
        refine r_take 2 hF rfl rfl rfl (by kernel_rfl) (by kernel_rfl) (by kernel_rfl) (fun _ _ _ h => h) rfl hS (fun w hS => x_move (hF.tmp 9 rfl)) rfl ?_; clear hF; intro a hF
        refine r_take 3 hF rfl rfl rfl (by kernel_rfl) (by kernel_rfl) (by kernel_rfl) (fun _ _ _ h => h) rfl hS (fun w hS => x_iaddr_A Try.underlying22 ty5 ((hH.rd 901 rfl)) (hF.tmp 26 rfl) (hF.tmp 27 rfl) (by omega) (by omega) _) rfl ?_; clear hF; intro a hF
        refine r_take 4 hF rfl rfl rfl (by kernel_rfl) (by kernel_rfl) (by kernel_rfl) (fun _ _ _ h => h) rfl hS (fun w hS => x_load1 ty5 (hF.tmp 28 rfl) (((SL.rd hS 901 rfl)).cellA (gi_some (i := (k : Int)) (by omega) (by omega)))) rfl ?_; clear hF; intro a hF
        refine r_take 5 hF rfl rfl rfl (by kernel_rfl) (by kernel_rfl) (by kernel_rfl) (fun _ _ _ h => h) rfl hS (fun w hS => x_move (hF.tmp 1 rfl)) rfl ?_; clear hF; intro a hF
        refine r_take 6 hF rfl rfl rfl (by kernel_rfl) (by kernel_rfl) (by kernel_rfl) (fun _ _ _ h => h) rfl hS (fun w hS => x_move (hF.tmp 9 rfl)) rfl ?_; clear hF; intro a hF
        refine r_take 7 hF rfl rfl rfl (by kernel_rfl) (by kernel_rfl) (by kernel_rfl) (fun _ _ _ h => h) rfl hS (fun w hS => x_iaddr_A Try.underlying22 ty5 ((hH.rd 902 rfl)) (hF.tmp 30 rfl) (hF.tmp 31 rfl) (by omega) (by omega) _) rfl ?_; clear hF; intro a hF
        refine r_take 8 hF rfl rfl rfl (by kernel_rfl) (by kernel_rfl) (by kernel_rfl) (fun _ _ _ h => h) rfl hS (fun w hS => x_load1 ty5 (hF.tmp 32 rfl) (((SL.rd hS 902 rfl)).cellA (gi_some (i := (k : Int)) (by omega) (by omega)))) rfl ?_; clear hF; intro a hF
        refine r_take 9 hF rfl rfl rfl (by kernel_rfl) (by kernel_rfl) (by kernel_rfl) (fun _ _ _ h => h) rfl hS (fun w hS => x_bits (by simp) (hF.tmp 29 rfl) (hF.tmp 33 rfl) rfl) rfl ?_; clear hF; intro a hF
        refine r_take 10 hF rfl rfl rfl (by kernel_rfl) (by kernel_rfl) (by kernel_rfl) (fun _ _ _ h => h) rfl hS (fun w hS => x_move (hF.tmp 2 rfl)) rfl ?_; clear hF; intro a hF
        refine r_take 11 hF rfl rfl rfl (by kernel_rfl) (by kernel_rfl) (by kernel_rfl) (fun _ _ _ h => h) rfl hS (fun w hS => x_move (hF.tmp 9 rfl)) rfl ?_; clear hF; intro a hF
        refine r_take 12 hF rfl rfl rfl (by kernel_rfl) (by kernel_rfl) (by kernel_rfl) (fun _ _ _ h => h) rfl hS (fun w hS => x_iaddr_A Try.underlying22 ty5 ((hH.rd 903 rfl)) (hF.tmp 35 rfl) (hF.tmp 36 rfl) (by omega) (by omega) _) rfl ?_; clear hF; intro a hF
        refine r_take 13 hF rfl rfl rfl (by kernel_rfl) (by kernel_rfl) (by kernel_rfl) (fun _ _ _ h => h) rfl hS (fun w hS => x_load1 ty5 (hF.tmp 37 rfl) (((SL.rd hS 903 rfl)).cellA (gi_some (i := (k : Int)) (by omega) (by omega)))) rfl ?_; clear hF; intro a hF
        refine r_take 14 hF rfl rfl rfl (by kernel_rfl) (by kernel_rfl) (by kernel_rfl) (fun _ _ _ h => h) rfl hS (fun w hS => x_bits (by simp) (hF.tmp 34 rfl) (hF.tmp 38 rfl) rfl) rfl ?_; clear hF; intro a hF
        refine r_do 15 rfl (by kernel_rfl) rfl rfl ?_
        refine w_lit 40 (enc := Value.int .u8) (h1 := fun _ => rfl) ([bits .xor .u8 (bits .xor .u8 (gi xa k) (gi xb k)) (gi xc k)]) hF hH rfl Try.underlying22 ty5 (by simp only [List.map_toArray, List.map_cons, List.map_nil, hF.tmp 39 rfl]; rfl) rfl (by decide) (by decide) (by kernel_rfl) ?_
        clear hF hH; intro a w b40 hF hH
        clear hS; have hS : SL _ _ := SL.of hH (sub_cons (sub_cons (sub_cons (sub_nil _) 903 rfl) 902 rfl) 901 rfl); refine ⟨hS, ?_⟩
        refine r_do 16 rfl (by kernel_rfl) rfl rfl ?_
        refine w_append 8 40 hF hH rfl Try.underlying22 ty5 rfl rfl rfl rfl (Row.rd (ok' := fun k_ => (fun _ => False) k_ ∨ (.slice (some ⟨b40, 0, none⟩) ([bits .xor .u8 (bits .xor .u8 (gi xa k) (gi xb k)) (gi xc k)]).length ([bits .xor .u8 (bits .xor .u8 (gi xa k) (gi xb k)) (gi xc k)]).length : Value).ownBlock = some k_) (hH.row 40 rfl) (fun _ hk_ _ => .inl hk_) (fun _ hk_ => .inr hk_)) (by rintro k_ (hk_ | hk_); exact .inr hk_; exact .inl hk_) (hF.tmp 25 rfl) (hF.tmp 40 rfl) (by rw [xorI_length]; simp only [List.length_singleton]; omega) (by rw [xorI_length]; simp only [List.length_singleton, maxLen]; omega) (fun _ => False) (fun w' v' h => row_flat h _) (fun k_ hk_ => hk_.elim) ?_
        clear hF hH; intro a w v41 hF hH
        clear hS; have hS : SL _ _ := SL.of hH (sub_cons (sub_cons (sub_cons (sub_nil _) 903 rfl) 902 rfl) 901 rfl); refine ⟨hS, ?_⟩
        refine r_take 17 hF rfl rfl rfl (by kernel_rfl) (by kernel_rfl) (by kernel_rfl) (fun _ _ _ h => h) rfl hS (fun w hS => x_assign (hF.tmp 41 rfl)) rfl ?_; clear hF; intro a hF
        refine r_end (by kernel_rfl) ?_; clear hS
        refine hK11 _ _ ?_
        refine wp_region_lit ?_
        refine l_at hF rfl rfl rfl (x_move (hF.tmp 9 rfl)) ?_; clear hF; intro a hF
        refine l_at hF rfl rfl rfl (x_add (hF.tmp 23 rfl) rfl (w64 (by omega) (by omega))) ?_; clear hF; intro a hF
        refine l_at hF rfl rfl rfl (x_assign (hF.tmp 24 rfl)) ?_; clear hF; intro a hF
        refine wpList_nil ?_
        have hHs : Hp (fun _ => False) w0 w [(901, .rd_ (.int .u8) A1 xa c1 (fun k => k < w0.heap.size)), (902, .rd_ (.int .u8) A2 xb c2 (fun k => k < w0.heap.size)), (903, .rd_ (.int .u8) A3 xc c3 (fun k => k < w0.heap.size)), (8, .row (.int .u8) 5 v41 (xorI xa xb xc k ++ [bits .xor .u8 (bits .xor .u8 (gi xa k) (gi xb k)) (gi xc k)]) (fun _ => False))] := hH.sub _ (sub_cons (sub_cons (sub_cons (sub_cons (sub_nil _) 8 rfl) 903 rfl) 902 rfl) 901 rfl)
        rw [← xorI_succ] at hHs
        exact ⟨_, by omega, ⟨k + 1, v41, rfl, by omega, ((((((hF.bare.add hF 9 rfl).add hF 8 rfl).add hF 7 rfl).add hF 2 rfl).add hF 1 rfl).add hF 0 rfl), hHs⟩⟩
      · try simp only [Bool.or_eq_true, Bool.and_eq_true, Bool.or_eq_false_iff, Bool.and_eq_false_iff, Bool.not_eq_true', Bool.not_eq_false', decide_eq_true_eq, decide_eq_false_iff_not, Bool.not_true, Bool.not_false] at hc22
        have hkN : (mn (mn (xa.length : Int) (xb.length : Int)) (xc.length : Int)) = (k : Int) := by omega
        rw [hkN] at hF
        obtain ⟨A8, c8, rfl⟩ := (hH.row 8 rfl).form
        refine wp_exit ?_
        refine hK7 _ _ ?_
        refine wp_seq_k fun khK12 hK12 => ?_
        refine r_start [] (by kernel_rfl) hH fun hH => ?_
        have hS : SL [] _ := SL.of hH (sub_nil _)
        refine r_do 0 rfl (by kernel_rfl) rfl rfl ?_
        refine w_call hF (x_enter Try.func11 (by kernel_rfl) rfl (by simp only [List.map_toArray, List.map_cons, List.map_nil] <;> rfl)) (alive_calls _) rfl rfl ?_
        rintro _ w ⟨rfl, hm_⟩; refine ⟨_, rfl, ?_⟩; clear hF; intro a hF; have hH := hH.same hm_
        clear hS; have hS : SL _ _ := SL.of hH (sub_nil _); refine ⟨hS, ?_⟩
        refine r_take 1 hF rfl rfl rfl (by kernel_rfl) (by kernel_rfl) (by kernel_rfl) (fun _ _ _ h => h) rfl hS (fun w hS => x_move (hF.tmp 42 rfl)) rfl ?_; clear hF; intro a hF
        refine r_take 2 hF rfl rfl rfl (by kernel_rfl) (by kernel_rfl) (by kernel_rfl) (fun _ _ _ h => h) ((wanted_of hF rfl rfl rfl rfl).trans rfl) hS (fun w hS => x_move (hF.tmp 0 rfl)) rfl ?_; clear hF; intro a hF
        refine r_take 3 hF rfl rfl rfl (by kernel_rfl) (by kernel_rfl) (by kernel_rfl) (fun _ _ _ h => h) ((wanted_of hF rfl rfl rfl rfl).trans rfl) hS (fun w hS => x_move (hF.tmp 7 rfl)) rfl ?_; clear hF; intro a hF
        refine r_take 4 hF rfl rfl rfl (by kernel_rfl) (by kernel_rfl) (by kernel_rfl) (fun _ _ _ h => h) ((wanted_of hF rfl rfl rfl rfl).trans rfl) hS (fun w hS => x_slice_h Try.underlying22 ty5 (hF.tmp 44 rfl) (hF.tmp 45 rfl) (by omega) (by omega) ((hH.rd 901 rfl)).1) rfl ?_; clear hF; intro a hF
        refine r_take 6 hF rfl rfl rfl (by kernel_rfl) (by kernel_rfl) (by kernel_rfl) (fun _ _ _ h => h) ((wanted_of hF rfl rfl rfl rfl).trans rfl) hS (fun w hS => x_move (hF.tmp 1 rfl)) rfl ?_; clear hF; intro a hF
        refine r_take 7 hF rfl rfl rfl (by kernel_rfl) (by kernel_rfl) (by kernel_rfl) (fun _ _ _ h => h) ((wanted_of hF rfl rfl rfl rfl).trans rfl) hS (fun w hS => x_move (hF.tmp 7 rfl)) rfl ?_; clear hF; intro a hF
        refine r_take 8 hF rfl rfl rfl (by kernel_rfl) (by kernel_rfl) (by kernel_rfl) (fun _ _ _ h => h) ((wanted_of hF rfl rfl rfl rfl).trans rfl) hS (fun w hS => x_slice_h Try.underlying22 ty5 (hF.tmp 48 rfl) (hF.tmp 49 rfl) (by omega) (by omega) ((hH.rd 902 rfl)).1) rfl ?_; clear hF; intro a hF
        refine r_take 11 hF rfl rfl rfl (by kernel_rfl) (by kernel_rfl) (by kernel_rfl) (fun _ _ _ h => h) ((wanted_of hF rfl rfl rfl rfl).trans rfl) hS (fun w hS => x_move (hF.tmp 2 rfl)) rfl ?_; clear hF; intro a hF
        refine r_take 12 hF rfl rfl rfl (by kernel_rfl) (by kernel_rfl) (by kernel_rfl) (fun _ _ _ h => h) ((wanted_of hF rfl rfl rfl rfl).trans rfl) hS (fun w hS => x_move (hF.tmp 7 rfl)) rfl ?_; clear hF; intro a hF
        refine r_take 13 hF rfl rfl rfl (by kernel_rfl) (by kernel_rfl) (by kernel_rfl) (fun _ _ _ h => h) ((wanted_of hF rfl rfl rfl rfl).trans rfl) hS (fun w hS => x_slice_h Try.underlying22 ty5 (hF.tmp 53 rfl) (hF.tmp 54 rfl) (by omega) (by omega) ((hH.rd 903 rfl)).1) rfl ?_; clear hF; intro a hF
        refine r_take 16 hF rfl rfl rfl (by kernel_rfl) (by kernel_rfl) (by kernel_rfl) (fun _ _ _ h => h) ((wanted_of hF rfl rfl rfl rfl).trans rfl) hS (fun w hS => x_move (hF.tmp 8 rfl)) rfl ?_; clear hF; intro a hF
        refine r_do 5 rfl (by kernel_rfl) ((wanted_of hF rfl rfl rfl rfl).trans rfl) rfl ?_
        refine w_call hF (x_enter Try.func12 (by kernel_rfl) rfl (by simp only [List.map_toArray, List.map_cons, List.map_nil, hF.tmp 46 rfl] <;> rfl)) (sum_calls _ ((Rd.take ((hH.rd 901 rfl)) ((k : Int).toNat)))) rfl rfl ?_
        rintro _ w ⟨rfl, hm_⟩; refine ⟨_, rfl, ?_⟩; clear hF; intro a hF; have hH := hH.same hm_
        clear hS; have hS : SL _ _ := SL.of hH (sub_nil _); refine ⟨hS, ?_⟩
        refine r_do 9 rfl (by kernel_rfl) ((wanted_of hF rfl rfl rfl rfl).trans rfl) rfl ?_
        refine w_call hF (x_enter Try.func12 (by kernel_rfl) rfl (by simp only [List.map_toArray, List.map_cons, List.map_nil, hF.tmp 50 rfl] <;> rfl)) (sum_calls _ ((Rd.take ((hH.rd 902 rfl)) ((k : Int).toNat)))) rfl rfl ?_
        rintro _ w ⟨rfl, hm_⟩; refine ⟨_, rfl, ?_⟩; clear hF; intro a hF; have hH := hH.same hm_
        clear hS; have hS : SL _ _ := SL.of hH (sub_nil _); refine ⟨hS, ?_⟩
        refine r_take 10 hF rfl rfl rfl (by kernel_rfl) (by kernel_rfl) (by kernel_rfl) (fun _ _ _ h => h) ((wanted_of hF rfl rfl rfl rfl).trans rfl) hS (fun w hS => x_bits (by simp) (hF.tmp 47 rfl) (hF.tmp 51 rfl) rfl) rfl ?_; clear hF; intro a hF
        refine r_do 14 rfl (by kernel_rfl) ((wanted_of hF rfl rfl rfl rfl).trans rfl) rfl ?_
        refine w_call hF (x_enter Try.func12 (by kernel_rfl) rfl (by simp only [List.map_toArray, List.map_cons, List.map_nil, hF.tmp 55 rfl] <;> rfl)) (sum_calls _ ((Rd.take ((hH.rd 903 rfl)) ((k : Int).toNat)))) rfl rfl ?_
        rintro _ w ⟨rfl, hm_⟩; refine ⟨_, rfl, ?_⟩; clear hF; intro a hF; have hH := hH.same hm_
        clear hS; have hS : SL _ _ := SL.of hH (sub_nil _); refine ⟨hS, ?_⟩
        refine r_take 15 hF rfl rfl rfl (by kernel_rfl) (by kernel_rfl) (by kernel_rfl) (fun _ _ _ h => h) ((wanted_of hF rfl rfl rfl rfl).trans rfl) hS (fun w hS => x_bits (by simp) (hF.tmp 52 rfl) (hF.tmp 56 rfl) rfl) rfl ?_; clear hF; intro a hF
        refine r_do 17 rfl (by kernel_rfl) ((wanted_of hF rfl rfl rfl rfl).trans rfl) rfl ?_
        refine w_call hF (x_enter Try.func12 (by kernel_rfl) rfl (by simp only [List.map_toArray, List.map_cons, List.map_nil, hF.tmp 58 rfl] <;> rfl)) (sum_calls _ (Row.rd (ok' := fun k_ => (fun _ => False) k_ ∨ (.slice A8 (xorI xa xb xc k).length c8 : Value).ownBlock = some k_) (hH.row 8 rfl) (fun _ hk_ _ => .inl hk_) (fun _ hk_ => .inr hk_))) rfl rfl ?_
        rintro _ w ⟨rfl, hm_⟩; refine ⟨_, rfl, ?_⟩; clear hF; intro a hF; have hH := hH.same hm_
        clear hS; have hS : SL _ _ := SL.of hH (sub_nil _); refine ⟨hS, ?_⟩
        refine r_take 18 hF rfl rfl rfl (by kernel_rfl) (by kernel_rfl) (by kernel_rfl) (fun _ _ _ h => h) ((wanted_of hF rfl rfl rfl rfl).trans rfl) hS (fun w hS => x_eql (hF.tmp 57 rfl) (hF.tmp 59 rfl)) rfl ?_; clear hF; intro a hF
        simp only [Int.toNat_natCast] at hF
        rw [decide_eq_true (hlaw k (by omega) (by omega) (by omega))] at hF
        refine r_take 19 hF rfl rfl rfl (by kernel_rfl) (by kernel_rfl) (by kernel_rfl) (fun _ _ _ h => h) rfl hS (fun w hS => x_pickT (hF.tmp 43 rfl) rfl (hF.tmp 60 rfl)) rfl ?_; clear hF; intro a hF
        refine r_take 20 hF rfl rfl rfl (by kernel_rfl) (by kernel_rfl) (by kernel_rfl) (fun _ _ _ h => h) rfl hS (fun w hS => x_assign (hF.tmp 61 rfl)) rfl ?_; clear hF; intro a hF
        refine r_end (by kernel_rfl) ?_; clear hS
        refine hK12 _ _ ?_
        refine wp_ret ?_
        try simp only [Exit.then, Exit.inBlock]
        exact fin_ret hF (res1 hF rfl rfl) ⟨rfl, hH.mods⟩

set_option maxHeartbeats 400000 in
theorem burst_calls (w0 : World) {ok : Nat → Prop} {A0 A1 A2 : Option Addr} {l0 l1 l2 os : List Int} {c0 c1 c2 : Nat} (hr0 : Rd (.int .u8) w0 ok A0 l0 c0) (hr1 : Rd (.int .u8) w0 ok A1 l1 c1) (hr2 : Rd (.int .u8) w0 ok A2 l2 c2) (hos : os.length = 4)
    (hlaw : ∀ m : Nat, m = (l1.take 4).length → (decide (moreI 0 ([] ++ l0 ++ l1.take 4 ++ l2) = moreI 0 ([] ++ l0 ++ os.take m ++ l2)) == decide (strOfNums (l1.take 4) = strOfNums (os.take m))) = true) : Calls Try.prog 3 #[.agg #[.slice A0 l0.length c0, .slice A1 l1.length c1, .slice A2 l2.length c2], .agg (os.map (Value.int .u8)).toArray] w0 fun e w' => e = .returned (.bool true) ∧ Mods (fun _ => False) w0 w' := by
  refine calls_of_wp Try.func3 rfl ?_
  have hF := Fr.enter #[.agg #[.slice A0 l0.length c0, .slice A1 l1.length c1, .slice A2 l2.length c2], .agg (os.map (Value.int .u8)).toArray] 72 (slotsOf [.agg #[.slice A0 l0.length c0, .slice A1 l1.length c1, .slice A2 l2.length c2], .agg (os.map (Value.int .u8)).toArray] 0) (Nat.le_of_ble_eq_true rfl) (fun i v h => by have h2 := (get_slotsOf _ 0 i v h).2; simpa only [List.getElem?_toArray, Nat.sub_zero] using h2)
  have hH := Hp.nil (fun _ => False) w0
  rw [Try.ntmps3]
  revert hF; generalize (⟨(#[.agg #[.slice A0 l0.length c0, .slice A1 l1.length c1, .slice A2 l2.length c2], .agg (os.map (Value.int .u8)).toArray] : Array Value) ++ Array.replicate (72 - (#[.agg #[.slice A0 l0.length c0, .slice A1 l1.length c1, .slice A2 l2.length c2], .agg (os.map (Value.int .u8)).toArray] : Array Value).size) undef, []⟩ : Act) = a; intro hF
  have hH := hH.arg 901 hr0.all (fun _ h => ⟨h, fun h => h⟩)
  have hle0 := hr0.le; unfold maxLen at hle0
  have hH := hH.arg 902 hr1.all (fun _ h => ⟨h, fun h => h⟩)
  have hle1 := hr1.le; unfold maxLen at hle1
  have hH := hH.arg 903 hr2.all (fun _ h => ⟨h, fun h => h⟩)
  have hle2 := hr2.le; unfold maxLen at hle2
  refine wp_seq_k fun khK1 hK1 => ?_
  refine wp_region_lit ?_
  refine wpList_plain rfl fun K hK => ?_
  refine w_box 2 hF hH rfl (hF.tmp 0 rfl) ?_
  clear hF hH; intro a w b2 hF hH
  refine hK _ _ ?_; clear hK K
  refine wpList_plain rfl fun K hK => ?_
  refine w_box 3 hF hH rfl (hF.tmp 1 rfl) ?_
  clear hF hH; intro a w b3 hF hH
  refine hK _ _ ?_; clear hK K
  refine l_at hF rfl rfl rfl (x_assign rfl) ?_; clear hF; intro a hF
  refine wpList_nil ?_
  refine hK1 _ _ ?_
  refine wp_seq_k fun khK2 hK2 => ?_
  refine wp_seq_k fun khK3 hK3 => ?_
  refine wp_region_lit ?_
  refine l_at hF rfl rfl rfl (x_iaddr_arr Try.underlying23 ty22 (hF.tmp 2 rfl) rfl (by omega) (by omega)) ?_; clear hF; intro a hF
  refine l_at hF rfl rfl rfl (x_load1 ty22 (hF.tmp 10 rfl) (blk_cell (hH.at 2 rfl) _ rfl)) ?_; clear hF; intro a hF
  refine l_at hF rfl rfl rfl (x_len_slice Try.underlying22 (hF.tmp 11 rfl)) ?_; clear hF; intro a hF
  refine l_at hF rfl rfl rfl (x_gtr (hF.tmp 12 rfl) rfl) ?_; clear hF; intro a hF
  refine l_at hF rfl rfl rfl (x_move (hF.tmp 13 rfl)) ?_; clear hF; intro a hF
  refine split_bool hF 14 rfl (fun hb14 => ?_) (fun hb14 => ?_)
  · have hc14 := hb14; try simp only [Bool.or_eq_true, Bool.and_eq_true, Bool.or_eq_false_iff, Bool.and_eq_false_iff, Bool.not_eq_true', Bool.not_eq_false', decide_eq_true_eq, decide_eq_false_iff_not, Bool.not_true, Bool.not_false] at hc14
    refine l_offg hF ((wanted_of hF rfl rfl rfl rfl).trans (by rw [hb14]; rfl)) rfl rfl ?_; clear hF; intro a hF
    refine l_offg hF ((wanted_of hF rfl rfl rfl rfl).trans (by rw [hb14]; rfl)) rfl rfl ?_; clear hF; intro a hF
    refine l_offg hF ((wanted_of hF rfl rfl rfl rfl).trans (by rw [hb14]; rfl)) rfl rfl ?_; clear hF; intro a hF
    refine l_offg hF ((wanted_of hF rfl rfl rfl rfl).trans (by rw [hb14]; rfl)) rfl rfl ?_; clear hF; intro a hF
    refine l_at hF rfl rfl rfl (x_pickT (hF.tmp 14 rfl) hb14 rfl) ?_; clear hF; intro a hF
    refine wpList_nil ?_
    refine hK3 _ _ ?_
    refine wp_cond_true (hF.tmp 19 rfl) ?_
    refine wp_seq_k fun khK4 hK4 => ?_
    refine wp_region_lit ?_
    refine wpList_plain rfl fun K hK => ?_
    refine w_call hF (x_enter Try.func11 (by kernel_rfl) rfl (by simp only [List.map_toArray, List.map_cons, List.map_nil] <;> rfl)) (alive_calls _) rfl rfl ?_
    rintro _ w ⟨rfl, hm_⟩; refine ⟨_, rfl, ?_⟩; clear hF; intro a hF; have hH := hH.same hm_
    refine hK _ _ ?_; clear hK K
    refine l_at hF rfl rfl rfl (x_assign (hF.tmp 20 rfl)) ?_; clear hF; intro a hF
    refine wpList_nil ?_
    refine hK4 _ _ ?_
    refine wp_ret ?_
    try simp only [Exit.then, Exit.inBlock]
    exact fin_ret hF (res1 hF rfl rfl) ⟨rfl, hH.mods⟩
  · have hc14 := hb14; try simp only [Bool.or_eq_true, Bool.and_eq_true, Bool.or_eq_false_iff, Bool.and_eq_false_iff, Bool.not_eq_true', Bool.not_eq_false', decide_eq_true_eq, decide_eq_false_iff_not, Bool.not_true, Bool.not_false] at hc14
    refine l_atg hF ((wanted_of hF rfl rfl rfl rfl).trans (by rw [hb14]; rfl)) rfl rfl (x_iaddr_arr Try.underlying23 ty22 (hF.tmp 2 rfl) rfl (by omega) (by omega)) ?_; clear hF; intro a hF
    refine l_atg hF ((wanted_of hF rfl rfl rfl rfl).trans (by rw [hb14]; rfl)) rfl rfl (x_load1 ty22 (hF.tmp 15 rfl) (blk_cell (hH.at 2 rfl) _ rfl)) ?_; clear hF; intro a hF
    refine l_atg hF ((wanted_of hF rfl rfl rfl rfl).trans (by rw [hb14]; rfl)) rfl rfl (x_len_slice Try.underlying22 (hF.tmp 16 rfl)) ?_; clear hF; intro a hF
    refine l_atg hF ((wanted_of hF rfl rfl rfl rfl).trans (by rw [hb14]; rfl)) rfl rfl (x_gtr (hF.tmp 17 rfl) rfl) ?_; clear hF; intro a hF
    refine l_at hF rfl rfl rfl (x_pickF (hF.tmp 14 rfl) hb14 (hF.tmp 18 rfl)) ?_; clear hF; intro a hF
    refine wpList_nil ?_
    refine hK3 _ _ ?_
    refine wp_cond_split (hF.tmp 19 rfl) (fun hc19 => ?_) (fun hc19 => ?_)
    · try simp only [Bool.or_eq_true, Bool.and_eq_true, Bool.or_eq_false_iff, Bool.and_eq_false_iff, Bool.not_eq_true', Bool.not_eq_false', decide_eq_true_eq, decide_eq_false_iff_not, Bool.not_true, Bool.not_false] at hc19
      refine wp_seq_k fun khK5 hK5 => ?_
      refine wp_region_lit ?_
      refine wpList_plain rfl fun K hK => ?_
      refine w_call hF (x_enter Try.func11 (by kernel_rfl) rfl (by simp only [List.map_toArray, List.map_cons, List.map_nil] <;> rfl)) (alive_calls _) rfl rfl ?_
      rintro _ w ⟨rfl, hm_⟩; refine ⟨_, rfl, ?_⟩; clear hF; intro a hF; have hH := hH.same hm_
      refine hK _ _ ?_; clear hK K
      refine l_at hF rfl rfl rfl (x_assign (hF.tmp 20 rfl)) ?_; clear hF; intro a hF
      refine wpList_nil ?_
      refine hK5 _ _ ?_
      refine wp_ret ?_
      try simp only [Exit.then, Exit.inBlock]
      exact fin_ret hF (res1 hF rfl rfl) ⟨rfl, hH.mods⟩
    · try simp only [Bool.or_eq_true, Bool.and_eq_true, Bool.or_eq_false_iff, Bool.and_eq_false_iff, Bool.not_eq_true', Bool.not_eq_false', decide_eq_true_eq, decide_eq_false_iff_not, Bool.not_true, Bool.not_false] at hc19
      refine wp_skip ?_
      refine hK2 _ _ ?_
      refine wp_seq_k fun khK6 hK6 => ?_
      refine wp_region_lit ?_
      refine l_at hF rfl rfl rfl (x_iaddr_arr Try.underlying23 ty22 (hF.tmp 2 rfl) rfl (by omega) (by omega)) ?_; clear hF; intro a hF
      refine l_at hF rfl rfl rfl (x_load1 ty22 (hF.tmp 21 rfl) (blk_cell (hH.at 2 rfl) _ rfl)) ?_; clear hF; intro a hF
      refine l_at hF rfl rfl rfl (x_assign (hF.tmp 22 rfl)) ?_; clear hF; intro a hF
      refine wpList_nil ?_
      refine hK6 _ _ ?_
      refine wp_seq_k fun khK7 hK7 => ?_
      refine wp_seq_k fun khK8 hK8 => ?_
      refine wp_region_lit ?_
      refine l_at hF rfl rfl rfl (x_move (hF.tmp 5 rfl)) ?_; clear hF; intro a hF
      refine l_at hF rfl rfl rfl (x_len_slice Try.underlying22 (hF.tmp 23 rfl)) ?_; clear hF; intro a hF
      refine l_at hF rfl rfl rfl (x_gtr (hF.tmp 24 rfl) rfl) ?_; clear hF; intro a hF
      refine wpList_nil ?_
      refine hK8 _ _ ?_
      have hJ25 : ∀ a w, Fr 72 a [(2, .pointer (some ⟨b2, 0, none⟩)), (3, .pointer (some ⟨b3, 0, none⟩)), (5, .slice A1 (l1.take 4).length c1)] → Hp (fun _ => False) w0 w [(901, .rd_ (.int .u8) A0 l0 c0 (fun k => k < w0.heap.size)), (902, .rd_ (.int .u8) A1 l1 c1 (fun k => k < w0.heap.size)), (903, .rd_ (.int .u8) A2 l2 c2 (fun k => k < w0.heap.size)), (2, .blk b2 (.cells #[.slice A0 l0.length c0, .slice A1 l1.length c1, .slice A2 l2.length c2] 23 (0, 0))), (3, .blk b3 (.cells (os.map (Value.int .u8)).toArray 24 (0, 0)))] → khK7 a w := by
        intro a w  hF hH
        refine hK7 a w ?_
        refine wp_seq_k fun khK9 hK9 => ?_
        refine wp_region_lit ?_
        refine l_at hF rfl rfl rfl (x_assign rfl) ?_; clear hF; intro a hF
        refine wpList_nil ?_
        refine hK9 _ _ ?_
        refine wp_seq_k fun khK10 hK10 => ?_
        refine wp_seq_k fun khK11 hK11 => ?_
        refine wp_region_lit ?_
        refine l_at hF rfl rfl rfl (x_assign rfl) ?_; clear hF; intro a hF
        have hH := hH.row0 6 (.int .u8) 5
        refine wpList_nil ?_
        refine hK11 _ _ ?_
        refine wp_block ?_
        refine wp_loop_ghost (fun n_ a w => ∃ k : Nat, ∃ v6 : Value, n_ = 4 - k ∧ (k ≤ (l1.take 4).length) ∧ Fr 72 a [(2, .pointer (some ⟨b2, 0, none⟩)), (3, .pointer (some ⟨b3, 0, none⟩)), (5, .slice A1 (l1.take 4).length c1), (6, v6), (7, .int .i64 (k : Int))] ∧ Hp (fun _ => False) w0 w [(901, .rd_ (.int .u8) A0 l0 c0 (fun k => k < w0.heap.size)), (902, .rd_ (.int .u8) A1 l1 c1 (fun k => k < w0.heap.size)), (903, .rd_ (.int .u8) A2 l2 c2 (fun k => k < w0.heap.size)), (2, .blk b2 (.cells #[.slice A0 l0.length c0, .slice A1 l1.length c1, .slice A2 l2.length c2] 23 (0, 0))), (3, .blk b3 (.cells (os.map (Value.int .u8)).toArray 24 (0, 0))), (6, .row (.int .u8) 5 v6 (os.take k) (fun _ => False))]) (4) ?_ ?_
        · exact ⟨0, .slice none 0 0, rfl, by omega, (((((hF.bare.add hF 7 rfl).add hF 6 rfl).add hF 5 rfl).add hF 3 rfl).add hF 2 rfl), hH.sub _ (sub_cons (sub_cons (sub_cons (sub_cons (sub_cons (sub_cons (sub_nil _) 6 rfl) 3 rfl) 2 rfl) 903 rfl) 902 rfl) 901 rfl)⟩
        · rintro _ a w ⟨k, v6, rfl, hq0_0, hF, hH⟩
          have hb4 : (l1.take 4).length ≤ 4 := by rw [List.length_take]; omega
          refine wp_seq_k fun khK12 hK12 => ?_
          refine wp_seq_k fun khK13 hK13 => ?_
          refine wp_region_lit ?_
          refine l_at hF rfl rfl rfl (x_move (hF.tmp 7 rfl)) ?_; clear hF; intro a hF
          refine l_at hF rfl rfl rfl (x_move (hF.tmp 5 rfl)) ?_; clear hF; intro a hF
          refine l_at hF rfl rfl rfl (x_len_slice Try.underlying22 (hF.tmp 29 rfl)) ?_; clear hF; intro a hF
          refine l_at hF rfl rfl rfl (x_lss (hF.tmp 28 rfl) (hF.tmp 30 rfl)) ?_; clear hF; intro a hF
          refine wpList_nil ?_
          refine hK13 _ _ ?_
          refine wp_cond_split (hF.tmp 31 rfl) (fun hc31 => ?_) (fun hc31 => ?_)
          · try simp only [Bool.or_eq_true, Bool.and_eq_true, Bool.or_eq_false_iff, Bool.and_eq_false_iff, Bool.not_eq_true', Bool.not_eq_false', decide_eq_true_eq, decide_eq_false_iff_not, Bool.not_true, Bool.not_false] at hc31
            refine wp_skip ?_
            refine hK12 _ _ ?_
            refine wp_seq_k fun khK14 hK14 => ?_
            refine wp_block ?_
            refine wp_region_lit ?_
            refine l_at hF rfl rfl rfl (x_move (hF.tmp 6 rfl)) ?_; clear hF; intro a hF
            refine l_at hF rfl rfl rfl (x_move (hF.tmp 7 rfl)) ?_; clear hF; intro a hF
            refine l_at hF rfl rfl rfl (x_iaddr_arr Try.underlying24 ty5 (hF.tmp 3 rfl) (hF.tmp 35 rfl) (by omega) (by omega)) ?_; clear hF; intro a hF
            refine l_at hF rfl rfl rfl (x_load1 ty5 (hF.tmp 36 rfl) (blk_cell (hH.at 3 rfl) _ (os_at os hos (by omega)))) ?_; clear hF; intro a hF
            refine wpList_plain rfl fun K hK => ?_
            refine w_lit 38 (enc := Value.int .u8) (h1 := fun _ => rfl) ([gi os k]) hF hH rfl Try.underlying22 ty5 (by simp only [List.map_toArray, List.map_cons, List.map_nil, hF.tmp 37 rfl]; rfl) rfl (by decide) (by decide) (by kernel_rfl) ?_
            clear hF hH; intro a w b38 hF hH
            refine hK _ _ ?_; clear hK K
            refine wpList_plain rfl fun K hK => ?_
            refine w_append 6 38 hF hH rfl Try.underlying22 ty5 rfl rfl rfl rfl (Row.rd (ok' := fun k_ => (fun _ => False) k_ ∨ (.slice (some ⟨b38, 0, none⟩) ([gi os k]).length ([gi os k]).length : Value).ownBlock = some k_) (hH.row 38 rfl) (fun _ hk_ _ => .inl hk_) (fun _ hk_ => .inr hk_)) (by rintro k_ (hk_ | hk_); exact .inr hk_; exact .inl hk_) (hF.tmp 34 rfl) (hF.tmp 38 rfl) (by simp only [List.length_take, List.length_singleton]; omega) (by simp only [List.length_take, List.length_singleton, maxLen]; omega) (fun _ => False) (fun w' v' h => row_flat h _) (fun k_ hk_ => hk_.elim) ?_
            clear hF hH; intro a w v39 hF hH
            refine hK _ _ ?_; clear hK K
            refine l_at hF rfl rfl rfl (x_assign (hF.tmp 39 rfl)) ?_; clear hF; intro a hF
            refine wpList_nil ?_
            refine hK14 _ _ ?_
            refine wp_region_lit ?_
            refine l_at hF rfl rfl rfl (x_move (hF.tmp 7 rfl)) ?_; clear hF; intro a hF
            refine l_at hF rfl rfl rfl (x_add (hF.tmp 32 rfl) rfl (w64 (by omega) (by omega))) ?_; clear hF; intro a hF
            refine l_at hF rfl rfl rfl (x_assign (hF.tmp 33 rfl)) ?_; clear hF; intro a hF
            refine wpList_nil ?_
            have hHs : Hp (fun _ => False) w0 w [(901, .rd_ (.int .u8) A0 l0 c0 (fun k => k < w0.heap.size)), (902, .rd_ (.int .u8) A1 l1 c1 (fun k => k < w0.heap.size)), (903, .rd_ (.int .u8) A2 l2 c2 (fun k => k < w0.heap.size)), (2, .blk b2 (.cells #[.slice A0 l0.length c0, .slice A1 l1.length c1, .slice A2 l2.length c2] 23 (0, 0))), (3, .blk b3 (.cells (os.map (Value.int .u8)).toArray 24 (0, 0))), (6, .row (.int .u8) 5 v39 (os.take k ++ [gi os k]) (fun _ => False))] := hH.sub _ (sub_cons (sub_cons (sub_cons (sub_cons (sub_cons (sub_cons (sub_nil _) 6 rfl) 3 rfl) 2 rfl) 903 rfl) 902 rfl) 901 rfl)
            rw [← os_take os hos (by omega)] at hHs
            exact ⟨_, by omega, ⟨k + 1, v39, rfl, by omega, (((((hF.bare.add hF 7 rfl).add hF 6 rfl).add hF 5 rfl).add hF 3 rfl).add hF 2 rfl), hHs⟩⟩
          · try simp only [Bool.or_eq_true, Bool.and_eq_true, Bool.or_eq_false_iff, Bool.and_eq_false_iff, Bool.not_eq_true', Bool.not_eq_false', decide_eq_true_eq, decide_eq_false_iff_not, Bool.not_true, Bool.not_false] at hc31
            have hk4 : k = (l1.take 4).length := by omega
            obtain ⟨A6, c6, rfl⟩ := (hH.row 6 rfl).form
            refine wp_exit ?_
            refine hK10 _ _ ?_
            refine wp_seq_k fun khK15 hK15 => ?_
            refine r_start [(2, .blk b2 (.cells #[.slice A0 l0.length c0, .slice A1 l1.length c1, .slice A2 l2.length c2] 23 (0, 0)))] (by kernel_rfl) hH fun hH => ?_
            have hS : SL [(2, .blk b2 (.cells #[.slice A0 l0.length c0, .slice A1 l1.length c1, .slice A2 l2.length c2] 23 (0, 0)))] _ := SL.of hH (sub_cons (sub_nil _) 2 rfl)
            refine r_take 1 hF rfl rfl rfl (by kernel_rfl) (by kernel_rfl) (by kernel_rfl) (fun _ _ _ h => h) rfl hS (fun w hS => x_iaddr_arr Try.underlying23 ty22 (hF.tmp 2 rfl) rfl (by omega) (by omega)) rfl ?_; clear hF; intro a hF
            refine r_take 2 hF rfl rfl rfl (by kernel_rfl) (by kernel_rfl) (by kernel_rfl) (fun _ _ _ h => h) rfl hS (fun w hS => x_load1 ty22 (hF.tmp 41 rfl) (blk_cell (SL.at_ hS 2 rfl) _ rfl)) rfl ?_; clear hF; intro a hF
            refine r_take 4 hF rfl rfl rfl (by kernel_rfl) (by kernel_rfl) (by kernel_rfl) (fun _ _ _ h => h) rfl hS (fun w hS => x_move (hF.tmp 5 rfl)) rfl ?_; clear hF; intro a hF
            refine r_take 6 hF rfl rfl rfl (by kernel_rfl) (by kernel_rfl) (by kernel_rfl) (fun _ _ _ h => h) rfl hS (fun w hS => x_iaddr_arr Try.underlying23 ty22 (hF.tmp 2 rfl) rfl (by omega) (by omega)) rfl ?_; clear hF; intro a hF
            refine r_take 7 hF rfl rfl rfl (by kernel_rfl) (by kernel_rfl) (by kernel_rfl) (fun _ _ _ h => h) rfl hS (fun w hS => x_load1 ty22 (hF.tmp 46 rfl) (blk_cell (SL.at_ hS 2 rfl) _ rfl)) rfl ?_; clear hF; intro a hF
            refine r_do 0 rfl (by kernel_rfl) rfl rfl ?_
            refine w_lit0 (.int .u8) 40 hF hH rfl Try.underlying22 ty5 ?_
            clear hF hH; intro a w b40 hF hH
            clear hS; have hS : SL _ _ := SL.of hH (sub_cons (sub_nil _) 2 rfl); refine ⟨hS, ?_⟩
            refine r_do 3 rfl (by kernel_rfl) rfl rfl ?_
            refine w_append 40 901 hF hH rfl Try.underlying22 ty5 rfl rfl rfl rfl ((hH.rd 901 rfl)) (by intro k_ hk_; exact .inr hk_) (hF.tmp 40 rfl) (hF.tmp 42 rfl) (by simp only [List.length_append, List.length_nil, List.length_take] at *; omega) (by simp only [List.length_append, List.length_nil, List.length_take, maxLen] at *; omega) (fun _ => False) (fun w' v' h => row_flat h _) (fun k_ hk_ => hk_.elim) ?_
            clear hF hH; intro a w v43 hF hH
            clear hS; have hS : SL _ _ := SL.of hH (sub_cons (sub_nil _) 2 rfl); refine ⟨hS, ?_⟩
            refine r_do 5 rfl (by kernel_rfl) rfl rfl ?_
            refine w_append 40 902 hF hH rfl Try.underlying22 ty5 rfl rfl rfl rfl ((Rd.take ((hH.rd 902 rfl)) 4)) (by intro k_ hk_; exact .inr hk_) (hF.tmp 43 rfl) (hF.tmp 44 rfl) (by simp only [List.length_append, List.length_nil, List.length_take] at *; omega) (by simp only [List.length_append, List.length_nil, List.length_take, maxLen] at *; omega) (fun _ => False) (fun w' v' h => row_flat h _) (fun k_ hk_ => hk_.elim) ?_
            clear hF hH; intro a w v45 hF hH
            clear hS; have hS : SL _ _ := SL.of hH (sub_cons (sub_nil _) 2 rfl); refine ⟨hS, ?_⟩
            refine r_do 8 rfl (by kernel_rfl) rfl rfl ?_
            refine w_append 40 903 hF hH rfl Try.underlying22 ty5 rfl rfl rfl rfl ((hH.rd 903 rfl)) (by intro k_ hk_; exact .inr hk_) (hF.tmp 45 rfl) (hF.tmp 47 rfl) (by simp only [List.length_append, List.length_nil, List.length_take] at *; omega) (by simp only [List.length_append, List.length_nil, List.length_take, maxLen] at *; omega) (fun _ => False) (fun w' v' h => row_flat h _) (fun k_ hk_ => hk_.elim) ?_
            clear hF hH; intro a w v48 hF hH
            clear hS; have hS : SL _ _ := SL.of hH (sub_cons (sub_nil _) 2 rfl); refine ⟨hS, ?_⟩
            refine r_take 9 hF rfl rfl rfl (by kernel_rfl) (by kernel_rfl) (by kernel_rfl) (fun _ _ _ h => h) rfl hS (fun w hS => x_assign (hF.tmp 48 rfl)) rfl ?_; clear hF; intro a hF
            obtain ⟨A8, c8, rfl⟩ := (hH.row 40 rfl).form
            refine r_end (by kernel_rfl) ?_; clear hS
            refine hK15 _ _ ?_
            refine wp_seq_k fun khK16 hK16 => ?_
            refine r_start [(2, .blk b2 (.cells #[.slice A0 l0.length c0, .slice A1 l1.length c1, .slice A2 l2.length c2] 23 (0, 0)))] (by kernel_rfl) hH fun hH => ?_
            have hS : SL [(2, .blk b2 (.cells #[.slice A0 l0.length c0, .slice A1 l1.length c1, .slice A2 l2.length c2] 23 (0, 0)))] _ := SL.of hH (sub_cons (sub_nil _) 2 rfl)
            refine r_take 1 hF rfl rfl rfl (by kernel_rfl) (by kernel_rfl) (by kernel_rfl) (fun _ _ _ h => h) rfl hS (fun w hS => x_iaddr_arr Try.underlying23 ty22 (hF.tmp 2 rfl) rfl (by omega) (by omega)) rfl ?_; clear hF; intro a hF
            refine r_take 2 hF rfl rfl rfl (by kernel_rfl) (by kernel_rfl) (by kernel_rfl) (fun _ _ _ h => h) rfl hS (fun w hS => x_load1 ty22 (hF.tmp 50 rfl) (blk_cell (SL.at_ hS 2 rfl) _ rfl)) rfl ?_; clear hF; intro a hF
            refine r_take 4 hF rfl rfl rfl (by kernel_rfl) (by kernel_rfl) (by kernel_rfl) (fun _ _ _ h => h) rfl hS (fun w hS => x_move (hF.tmp 6 rfl)) rfl ?_; clear hF; intro a hF
            refine r_take 6 hF rfl rfl rfl (by kernel_rfl) (by kernel_rfl) (by kernel_rfl) (fun _ _ _ h => h) rfl hS (fun w hS => x_iaddr_arr Try.underlying23 ty22 (hF.tmp 2 rfl) rfl (by omega) (by omega)) rfl ?_; clear hF; intro a hF
            refine r_take 7 hF rfl rfl rfl (by kernel_rfl) (by kernel_rfl) (by kernel_rfl) (fun _ _ _ h => h) rfl hS (fun w hS => x_load1 ty22 (hF.tmp 55 rfl) (blk_cell (SL.at_ hS 2 rfl) _ rfl)) rfl ?_; clear hF; intro a hF
            refine r_do 0 rfl (by kernel_rfl) rfl rfl ?_
            refine w_lit0 (.int .u8) 49 hF hH rfl Try.underlying22 ty5 ?_
            clear hF hH; intro a w b49 hF hH
            clear hS; have hS : SL _ _ := SL.of hH (sub_cons (sub_nil _) 2 rfl); refine ⟨hS, ?_⟩
            refine r_do 3 rfl (by kernel_rfl) rfl rfl ?_
            refine w_append 49 901 hF hH rfl Try.underlying22 ty5 rfl rfl rfl rfl ((hH.rd 901 rfl)) (by intro k_ hk_; exact .inr hk_) (hF.tmp 49 rfl) (hF.tmp 51 rfl) (by simp only [List.length_append, List.length_nil, List.length_take] at *; omega) (by simp only [List.length_append, List.length_nil, List.length_take, maxLen] at *; omega) (fun _ => False) (fun w' v' h => row_flat h _) (fun k_ hk_ => hk_.elim) ?_
            clear hF hH; intro a w v52 hF hH
            clear hS; have hS : SL _ _ := SL.of hH (sub_cons (sub_nil _) 2 rfl); refine ⟨hS, ?_⟩
            refine r_do 5 rfl (by kernel_rfl) rfl rfl ?_
            refine w_append 49 6 hF hH rfl Try.underlying22 ty5 rfl rfl rfl rfl (Row.rd (ok' := fun k_ => (fun _ => False) k_ ∨ (.slice A6 (os.take k).length c6 : Value).ownBlock = some k_) (hH.row 6 rfl) (fun _ hk_ _ => .inl hk_) (fun _ hk_ => .inr hk_)) (by rintro k_ (hk_ | hk_); exact .inr hk_; exact .inl hk_) (hF.tmp 52 rfl) (hF.tmp 53 rfl) (by simp only [List.length_append, List.length_nil, List.length_take] at *; omega) (by simp only [List.length_append, List.length_nil, List.length_take, maxLen] at *; omega) (fun _ => False) (fun w' v' h => row_flat h _) (fun k_ hk_ => hk_.elim) ?_
            clear hF hH; intro a w v54 hF hH
            clear hS; have hS : SL _ _ := SL.of hH (sub_cons (sub_nil _) 2 rfl); refine ⟨hS, ?_⟩
            refine r_do 8 rfl (by kernel_rfl) rfl rfl ?_
            refine w_append 49 903 hF hH rfl Try.underlying22 ty5 rfl rfl rfl rfl ((hH.rd 903 rfl)) (by intro k_ hk_; exact .inr hk_) (hF.tmp 54 rfl) (hF.tmp 56 rfl) (by simp only [List.length_append, List.length_nil, List.length_take] at *; omega) (by simp only [List.length_append, List.length_nil, List.length_take, maxLen] at *; omega) (fun _ => False) (fun w' v' h => row_flat h _) (fun k_ hk_ => hk_.elim) ?_
            clear hF hH; intro a w v57 hF hH
            clear hS; have hS : SL _ _ := SL.of hH (sub_cons (sub_nil _) 2 rfl); refine ⟨hS, ?_⟩
            refine r_take 9 hF rfl rfl rfl (by kernel_rfl) (by kernel_rfl) (by kernel_rfl) (fun _ _ _ h => h) rfl hS (fun w hS => x_assign (hF.tmp 57 rfl)) rfl ?_; clear hF; intro a hF
            obtain ⟨A9, c9, rfl⟩ := (hH.row 49 rfl).form
            refine r_end (by kernel_rfl) ?_; clear hS
            refine hK16 _ _ ?_
            refine wp_seq_k fun khK17 hK17 => ?_
            refine r_start [(902, .rd_ (.int .u8) A1 l1 c1 (fun k => k < w0.heap.size)), (6, .row (.int .u8) 5 (.slice A6 (os.take k).length c6) (os.take k) (fun _ => False))] (by kernel_rfl) hH fun hH => ?_
            have hS : SL [(902, .rd_ (.int .u8) A1 l1 c1 (fun k => k < w0.heap.size)), (6, .row (.int .u8) 5 (.slice A6 (os.take k).length c6) (os.take k) (fun _ => False))] _ := SL.of hH (sub_cons (sub_cons (sub_nil _) 6 rfl) 902 rfl)
            refine r_do 0 rfl (by kernel_rfl) rfl rfl ?_
            refine w_call hF (x_enter Try.func11 (by kernel_rfl) rfl (by simp only [List.map_toArray, List.map_cons, List.map_nil] <;> rfl)) (alive_calls _) rfl rfl ?_
            rintro _ w ⟨rfl, hm_⟩; refine ⟨_, rfl, ?_⟩; clear hF; intro a hF; have hH := hH.same hm_
            clear hS; have hS : SL _ _ := SL.of hH (sub_cons (sub_cons (sub_nil _) 6 rfl) 902 rfl); refine ⟨hS, ?_⟩
            refine r_take 1 hF rfl rfl rfl (by kernel_rfl) (by kernel_rfl) (by kernel_rfl) (fun _ _ _ h => h) rfl hS (fun w hS => x_move (hF.tmp 58 rfl)) rfl ?_; clear hF; intro a hF
            refine r_take 2 hF rfl rfl rfl (by kernel_rfl) (by kernel_rfl) (by kernel_rfl) (fun _ _ _ h => h) ((wanted_of hF rfl rfl rfl rfl).trans rfl) hS (fun w hS => x_move (hF.tmp 8 rfl)) rfl ?_; clear hF; intro a hF
            refine r_take 4 hF rfl rfl rfl (by kernel_rfl) (by kernel_rfl) (by kernel_rfl) (fun _ _ _ h => h) ((wanted_of hF rfl rfl rfl rfl).trans rfl) hS (fun w hS => x_move (hF.tmp 9 rfl)) rfl ?_; clear hF; intro a hF
            refine r_take 7 hF rfl rfl rfl (by kernel_rfl) (by kernel_rfl) (by kernel_rfl) (fun _ _ _ h => h) ((wanted_of hF rfl rfl rfl rfl).trans rfl) hS (fun w hS => x_move (hF.tmp 5 rfl)) rfl ?_; clear hF; intro a hF
            refine r_take 8 hF rfl rfl rfl (by kernel_rfl) (by kernel_rfl) (by kernel_rfl) (fun _ _ _ h => h) ((wanted_of hF rfl rfl rfl rfl).trans rfl) hS (fun w hS => x_b2s Try.underlying22 Try.underlying5 Try.underlying9 ((Rd.take ((SL.rd hS 902 rfl)) 4)) (hF.tmp 65 rfl)) rfl ?_; clear hF; intro a hF
            refine r_take 9 hF rfl rfl rfl (by kernel_rfl) (by kernel_rfl) (by kernel_rfl) (fun _ _ _ h => h) ((wanted_of hF rfl rfl rfl rfl).trans rfl) hS (fun w hS => x_move (hF.tmp 6 rfl)) rfl ?_; clear hF; intro a hF
            refine r_take 10 hF rfl rfl rfl (by kernel_rfl) (by kernel_rfl) (by kernel_rfl) (fun _ _ _ h => h) ((wanted_of hF rfl rfl rfl rfl).trans rfl) hS (fun w hS => x_b2s Try.underlying22 Try.underlying5 Try.underlying9 (Row.rd (ok' := fun k_ => (fun _ => False) k_ ∨ (.slice A6 (os.take k).length c6 : Value).ownBlock = some k_) (SL.row hS 6 rfl) (fun _ hk_ _ => .inl hk_) (fun _ hk_ => .inr hk_)) (hF.tmp 67 rfl)) rfl ?_; clear hF; intro a hF
            refine r_take 11 hF rfl rfl rfl (by kernel_rfl) (by kernel_rfl) (by kernel_rfl) (fun _ _ _ h => h) ((wanted_of hF rfl rfl rfl rfl).trans rfl) hS (fun w hS => x_eqs (hF.tmp 66 rfl) (hF.tmp 68 rfl)) rfl ?_; clear hF; intro a hF
            refine r_do 3 rfl (by kernel_rfl) ((wanted_of hF rfl rfl rfl rfl).trans rfl) rfl ?_
            refine w_call hF (x_enter Try.func12 (by kernel_rfl) rfl (by simp only [List.map_toArray, List.map_cons, List.map_nil, hF.tmp 60 rfl] <;> rfl)) (sum_calls _ (Row.rd (ok' := fun k_ => (fun _ => False) k_ ∨ (.slice A8 ([] ++ l0 ++ (l1.take 4) ++ l2).length c8 : Value).ownBlock = some k_) (hH.row 40 rfl) (fun _ hk_ _ => .inl hk_) (fun _ hk_ => .inr hk_))) rfl rfl ?_
            rintro _ w ⟨rfl, hm_⟩; refine ⟨_, rfl, ?_⟩; clear hF; intro a hF; have hH := hH.same hm_
            clear hS; have hS : SL _ _ := SL.of hH (sub_cons (sub_cons (sub_nil _) 6 rfl) 902 rfl); refine ⟨hS, ?_⟩
            refine r_do 5 rfl (by kernel_rfl) ((wanted_of hF rfl rfl rfl rfl).trans rfl) rfl ?_
            refine w_call hF (x_enter Try.func12 (by kernel_rfl) rfl (by simp only [List.map_toArray, List.map_cons, List.map_nil, hF.tmp 62 rfl] <;> rfl)) (sum_calls _ (Row.rd (ok' := fun k_ => (fun _ => False) k_ ∨ (.slice A9 ([] ++ l0 ++ (os.take k) ++ l2).length c9 : Value).ownBlock = some k_) (hH.row 49 rfl) (fun _ hk_ _ => .inl hk_) (fun _ hk_ => .inr hk_))) rfl rfl ?_
            rintro _ w ⟨rfl, hm_⟩; refine ⟨_, rfl, ?_⟩; clear hF; intro a hF; have hH := hH.same hm_
            clear hS; have hS : SL _ _ := SL.of hH (sub_cons (sub_cons (sub_nil _) 6 rfl) 902 rfl); refine ⟨hS, ?_⟩
            refine r_take 6 hF rfl rfl rfl (by kernel_rfl) (by kernel_rfl) (by kernel_rfl) (fun _ _ _ h => h) ((wanted_of hF rfl rfl rfl rfl).trans rfl) hS (fun w hS => x_eql (hF.tmp 61 rfl) (hF.tmp 63 rfl)) rfl ?_; clear hF; intro a hF
            refine r_take 12 hF rfl rfl rfl (by kernel_rfl) (by kernel_rfl) (by kernel_rfl) (fun _ _ _ h => h) ((wanted_of hF rfl rfl rfl rfl).trans rfl) hS (fun w hS => x_eqb (hF.tmp 64 rfl) (hF.tmp 69 rfl) Try.underlying4) rfl ?_; clear hF; intro a hF
            rw [hlaw k hk4] at hF
            refine r_take 13 hF rfl rfl rfl (by kernel_rfl) (by kernel_rfl) (by kernel_rfl) (fun _ _ _ h => h) rfl hS (fun w hS => x_pickT (hF.tmp 59 rfl) rfl (hF.tmp 70 rfl)) rfl ?_; clear hF; intro a hF
            refine r_take 14 hF rfl rfl rfl (by kernel_rfl) (by kernel_rfl) (by kernel_rfl) (fun _ _ _ h => h) rfl hS (fun w hS => x_assign (hF.tmp 71 rfl)) rfl ?_; clear hF; intro a hF
            refine r_end (by kernel_rfl) ?_; clear hS
            refine hK17 _ _ ?_
            refine wp_ret ?_
            try simp only [Exit.then, Exit.inBlock]
            exact fin_ret hF (res1 hF rfl rfl) ⟨rfl, hH.mods⟩
      refine wp_cond_split (hF.tmp 25 rfl) (fun hc25 => ?_) (fun hc25 => ?_)
      · try simp only [Bool.or_eq_true, Bool.and_eq_true, Bool.or_eq_false_iff, Bool.and_eq_false_iff, Bool.not_eq_true', Bool.not_eq_false', decide_eq_true_eq, decide_eq_false_iff_not, Bool.not_true, Bool.not_false] at hc25
        refine wp_region_lit ?_
        refine l_at hF rfl rfl rfl (x_move (hF.tmp 5 rfl)) ?_; clear hF; intro a hF
        refine l_at hF rfl rfl rfl (x_slice_h Try.underlying22 ty5 (hF.tmp 26 rfl) rfl (by omega) (by omega) ((hH.rd 902 rfl)).1) ?_; clear hF; intro a hF
        refine l_at hF rfl rfl rfl (x_assign (hF.tmp 27 rfl)) ?_; clear hF; intro a hF
        refine wpList_nil ?_
        exact hJ25 _ _  (((hF.bare.add hF 5 rfl).add hF 3 rfl).add hF 2 rfl) (hH.sub _ (sub_cons (sub_cons (sub_cons (sub_cons (sub_cons (sub_nil _) 3 rfl) 2 rfl) 903 rfl) 902 rfl) 901 rfl))
      · try simp only [Bool.or_eq_true, Bool.and_eq_true, Bool.or_eq_false_iff, Bool.and_eq_false_iff, Bool.not_eq_true', Bool.not_eq_false', decide_eq_true_eq, decide_eq_false_iff_not, Bool.not_true, Bool.not_false] at hc25
        have e4 : l1.take 4 = l1 := List.take_of_length_le (by omega)
        rw [← e4] at hF
        refine wp_skip ?_
        exact hJ25 _ _  (((hF.bare.add hF 5 rfl).add hF 3 rfl).add hF 2 rfl) (hH.sub _ (sub_cons (sub_cons (sub_cons (sub_cons (sub_cons (sub_nil _) 3 rfl) 2 rfl) 903 rfl) 902 rfl) 901 rfl))

end Go.Proofs.Ytjcpjkdadigkpaa.Crc
