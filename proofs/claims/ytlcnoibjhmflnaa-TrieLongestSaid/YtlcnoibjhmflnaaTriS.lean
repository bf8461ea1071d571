/- Bytes sorted, walked. -/
import Derived.Test.YtlcnoibjhmflnaaTriA
import Derived.Test.YtlcnoibjhmflnaaSrt
set_option linter.unusedVariables false
set_option linter.unusedSimpArgs false
namespace Go.Proofs.Ytlcnoibjhmflnaa.Act
open Go.RowKit Go.Proofs.Ytlcnoibjhmflnaa.Sx Go.Sort Go.Proofs.Ytlcnoibjhmflnaa.Cod
theorem ty72 : TyI Try.prog 72 (.slice none 0 0) 1 24 false := ⟨by kernel_rfl, _, Try.underlying72, rfl⟩
set_option maxRecDepth 100000 in
set_option maxHeartbeats 1000000 in
theorem nan_calls (w0 : World) (p : Int) : Calls Try.prog 61 #[.int .u8 p] w0 fun e w' => e = .returned (.bool false) ∧ Mods (fun _ => False) w0 w' := by
  refine calls_of_wp Try.func61 rfl ?_
  have hF := Fr.enter #[.int .u8 p] 6 (slotsOf [.int .u8 p] 0) (Nat.le_of_ble_eq_true rfl) (fun i v h => by have h2 := (get_slotsOf _ 0 i v h).2; simpa only [List.getElem?_toArray, Nat.sub_zero] using h2)
  have hH := Hp.nil (fun _ => False) w0
  rw [Try.ntmps61]
  revert hF; generalize (⟨(#[.int .u8 p] : Array Value) ++ Array.replicate (6 - (#[.int .u8 p] : Array Value).size) undef, []⟩ : Act) = a; intro hF
  refine wp_seq_k fun khK1 hK1 => ?_
  refine wp_region_lit ?_
  refine l_at hF rfl rfl rfl (x_assign rfl) ?_; clear hF; intro a hF
  refine wpList_nil ?_
  refine hK1 _ _ ?_
  refine wp_seq_k fun khK2 hK2 => ?_
  refine wp_region_lit ?_
  refine l_at hF rfl rfl rfl (x_move (hF.tmp 0 rfl)) ?_; clear hF; intro a hF
  refine l_at hF rfl rfl rfl (x_move (hF.tmp 0 rfl)) ?_; clear hF; intro a hF
  refine l_at hF rfl rfl rfl (x_neq (hF.tmp 3 rfl) (hF.tmp 4 rfl)) ?_; clear hF; intro a hF
  rw [decide_eq_true (rfl : p = p)] at hF
  refine l_at hF rfl rfl rfl (x_assign (hF.tmp 5 rfl)) ?_; clear hF; intro a hF
  refine wpList_nil ?_
  refine hK2 _ _ ?_
  refine wp_ret ?_
  try simp only [Exit.then, Exit.inBlock]
  exact fin_ret hF (res1 hF rfl rfl) ⟨rfl, hH.mods⟩

set_option maxRecDepth 100000 in
set_option maxHeartbeats 1000000 in
theorem less_calls (w0 : World) (p q : Int) : Calls Try.prog 51 #[.int .u8 p, .int .u8 q] w0 fun e w' => e = .returned (.bool (decide (p < q))) ∧ Mods (fun _ => False) w0 w' := by
  refine calls_of_wp Try.func51 rfl ?_
  have hF := Fr.enter #[.int .u8 p, .int .u8 q] 17 (slotsOf [.int .u8 p, .int .u8 q] 0) (Nat.le_of_ble_eq_true rfl) (fun i v h => by have h2 := (get_slotsOf _ 0 i v h).2; simpa only [List.getElem?_toArray, Nat.sub_zero] using h2)
  have hH := Hp.nil (fun _ => False) w0
  rw [Try.ntmps51]
  revert hF; generalize (⟨(#[.int .u8 p, .int .u8 q] : Array Value) ++ Array.replicate (17 - (#[.int .u8 p, .int .u8 q] : Array Value).size) undef, []⟩ : Act) = a; intro hF
  refine wp_seq_k fun khK1 hK1 => ?_
  refine wp_region_lit ?_
  refine l_at hF rfl rfl rfl (x_assign rfl) ?_; clear hF; intro a hF
  refine wpList_nil ?_
  refine hK1 _ _ ?_
  refine wp_seq_k fun khK2 hK2 => ?_
  refine wp_region_lit ?_
  refine l_at hF rfl rfl rfl (x_move (hF.tmp 0 rfl)) ?_; clear hF; intro a hF
  refine wpList_plain rfl fun K hK => ?_
  refine w_call hF (x_enter Try.func61 (by kernel_rfl) rfl (by simp only [List.map_toArray, List.map_cons, List.map_nil, hF.tmp 5 rfl] <;> rfl)) (nan_calls _ _) rfl rfl ?_
  rintro _ w ⟨rfl, hm_⟩; refine ⟨_, rfl, ?_⟩; clear hF; intro a hF; have hH := hH.same hm_
  refine hK _ _ ?_; clear hK K
  refine l_at hF rfl rfl rfl (x_move (hF.tmp 6 rfl)) ?_; clear hF; intro a hF
  refine l_offg hF ((wanted_of hF rfl rfl rfl rfl).trans rfl) rfl rfl ?_; clear hF; intro a hF
  refine l_offg hF ((wanted_of hF rfl rfl rfl rfl).trans rfl) rfl rfl ?_; clear hF; intro a hF
  refine l_offg hF ((wanted_of hF rfl rfl rfl rfl).trans rfl) rfl rfl ?_; clear hF; intro a hF
  refine l_at hF rfl rfl rfl (x_pickF (hF.tmp 7 rfl) rfl rfl) ?_; clear hF; intro a hF
  refine l_at hF rfl rfl rfl (x_move (hF.tmp 11 rfl)) ?_; clear hF; intro a hF
  refine l_atg hF ((wanted_of hF rfl rfl rfl rfl).trans rfl) rfl rfl (x_move (hF.tmp 0 rfl)) ?_; clear hF; intro a hF
  refine l_atg hF ((wanted_of hF rfl rfl rfl rfl).trans rfl) rfl rfl (x_move (hF.tmp 1 rfl)) ?_; clear hF; intro a hF
  refine l_atg hF ((wanted_of hF rfl rfl rfl rfl).trans rfl) rfl rfl (x_lss (hF.tmp 13 rfl) (hF.tmp 14 rfl)) ?_; clear hF; intro a hF
  refine l_at hF rfl rfl rfl (x_pickF (hF.tmp 12 rfl) rfl (hF.tmp 15 rfl)) ?_; clear hF; intro a hF
  refine l_at hF rfl rfl rfl (x_assign (hF.tmp 16 rfl)) ?_; clear hF; intro a hF
  refine wpList_nil ?_
  refine hK2 _ _ ?_
  refine wp_ret ?_
  try simp only [Exit.then, Exit.inBlock]
  exact fin_ret hF (res1 hF rfl rfl) ⟨rfl, hH.mods⟩

set_option maxRecDepth 100000 in
set_option maxHeartbeats 1000000 in
theorem inssort_calls (w0 : World) {v : Value} {d : Array Int} (h : Row RB 5 w0 (fun _ => False) v d.toList) {la lb : Nat} (hab : la ≤ lb) (hb : lb ≤ d.size) (hsz : d.size < 1000000000) : Calls Try.prog 45 #[v, .int .i64 (la : Int), .int .i64 (lb : Int)] w0 fun e w' => e = .returned (.tuple #[]) ∧ Mods (fun k => v.ownBlock = some k) w0 w' ∧ Row RB 5 w' (fun _ => False) v (insertionSort ltInt d la lb).toList := by
  refine calls_of_wp Try.func45 rfl ?_
  have hF := Fr.enter #[v, .int .i64 (la : Int), .int .i64 (lb : Int)] 49 (slotsOf [v, .int .i64 (la : Int), .int .i64 (lb : Int)] 0) (Nat.le_of_ble_eq_true rfl) (fun i v h => by have h2 := (get_slotsOf _ 0 i v h).2; simpa only [List.getElem?_toArray, Nat.sub_zero] using h2)
  rw [Try.ntmps45]
  revert hF; generalize (⟨(#[v, .int .i64 (la : Int), .int .i64 (lb : Int)] : Array Value) ++ Array.replicate (49 - (#[v, .int .i64 (la : Int), .int .i64 (lb : Int)] : Array Value).size) undef, []⟩ : Act) = a; intro hF
  have hH := Hp.ownrow 900 h (fun _ h => h.elim) (fun _ _ h => h)
  have hdl : d.toList.length = d.size := by simp
  refine wp_seq_k fun khK1 hK1 => ?_
  refine wp_region_lit ?_
  refine l_at hF rfl rfl rfl (x_move (hF.tmp 1 rfl)) ?_; clear hF; intro a hF
  refine l_at hF rfl rfl rfl (x_add (hF.tmp 8 rfl) rfl (show IntKind.i64.wrap _ = ((la + 1 : Nat) : Int) from by rw [w64 (by omega) (by omega)] <;> omega)) ?_; clear hF; intro a hF
  refine l_at hF rfl rfl rfl (x_assign (hF.tmp 9 rfl)) ?_; clear hF; intro a hF
  refine wpList_nil ?_
  refine hK1 _ _ ?_
  refine wp_block ?_
  refine wp_loop_ghost (fun n_ a w => ∃ i : Nat, ∃ dk : Array Int, n_ = lb + 1 - i ∧ (la < i) ∧ (i ≤ lb + 1) ∧ (dk.size = d.size) ∧ (insOuter ltInt la lb i dk = insOuter ltInt la lb (la + 1) d) ∧ Fr 49 a [(0, v), (1, .int .i64 (la : Int)), (2, .int .i64 (lb : Int)), (6, .int .i64 (i : Int))] ∧ Hp (fun k => v.ownBlock = some k) w0 w [(900, .row RB 5 v dk.toList (fun _ => False))]) (lb + 1 - (la + 1)) ?_ ?_
  · exact ⟨la + 1, d, rfl, by omega, by omega, rfl, rfl, ((((hF.bare.add hF 6 rfl).add hF 2 rfl).add hF 1 rfl).add hF 0 rfl), hH.sub _ (sub_cons (sub_nil _) 900 rfl)⟩
  · rintro _ a w ⟨i, dk, rfl, hq0_0, hq0_1, hq0_2, hq0_3, hF, hH⟩
    have hl_dk : dk.toList.length = d.size := by simp only [Array.length_toList]; omega
    refine wp_seq_k fun khK2 hK2 => ?_
    refine wp_seq_k fun khK3 hK3 => ?_
    refine wp_region_lit ?_
    refine l_at hF rfl rfl rfl (x_move (hF.tmp 6 rfl)) ?_; clear hF; intro a hF
    refine l_at hF rfl rfl rfl (x_move (hF.tmp 2 rfl)) ?_; clear hF; intro a hF
    refine l_at hF rfl rfl rfl (x_lss (hF.tmp 10 rfl) (hF.tmp 11 rfl)) ?_; clear hF; intro a hF
    refine wpList_nil ?_
    refine hK3 _ _ ?_
    refine wp_cond_split (hF.tmp 12 rfl) (fun hc12 => ?_) (fun hc12 => ?_)
    · have hk12_1 := hc12; try simp only [Bool.or_eq_true, Bool.and_eq_true, Bool.or_eq_false_iff, Bool.and_eq_false_iff, Bool.not_eq_true', Bool.not_eq_false', decide_eq_true_eq, decide_eq_false_iff_not, Bool.not_true, Bool.not_false] at hc12
      refine wp_skip ?_
      refine hK2 _ _ ?_
      refine wp_seq_k fun khK4 hK4 => ?_
      refine wp_block ?_
      refine wp_seq_k fun khK5 hK5 => ?_
      refine wp_region_lit ?_
      refine l_at hF rfl rfl rfl (x_move (hF.tmp 6 rfl)) ?_; clear hF; intro a hF
      refine l_at hF rfl rfl rfl (x_assign (hF.tmp 15 rfl)) ?_; clear hF; intro a hF
      refine wpList_nil ?_
      refine hK5 _ _ ?_
      refine wp_block ?_
      refine wp_loop_ghost (fun n_ a w => ∃ j : Nat, ∃ dj : Array Int, n_ = 0 + j ∧ (la ≤ j) ∧ (j ≤ i) ∧ (dj.size = d.size) ∧ (insInner ltInt la j dj = insInner ltInt la i dk) ∧ Fr 49 a [(0, v), (1, .int .i64 (la : Int)), (2, .int .i64 (lb : Int)), (6, .int .i64 (i : Int)), (7, .int .i64 (j : Int))] ∧ Hp (fun k => v.ownBlock = some k) w0 w [(900, .row RB 5 v dj.toList (fun _ => False))]) (0 + i) ?_ ?_
      · exact ⟨i, dk, rfl, by omega, Nat.le_refl _, hq0_2, rfl, (((((hF.bare.add hF 7 rfl).add hF 6 rfl).add hF 2 rfl).add hF 1 rfl).add hF 0 rfl), hH.sub _ (sub_cons (sub_nil _) 900 rfl)⟩
      · rintro _ a w ⟨j, dj, rfl, hq2_0, hq2_1, hq2_2, hq2_3, hF, hH⟩
        have hl_dj : dj.toList.length = d.size := by simp only [Array.length_toList]; omega
        refine wp_seq_k fun khK6 hK6 => ?_
        refine wp_seq_k fun khK7 hK7 => ?_
        refine r_start [(900, .row RB 5 v dj.toList (fun _ => False))] (by kernel_rfl) hH fun hH => ?_
        have hS : SL [(900, .row RB 5 v dj.toList (fun _ => False))] _ := SL.of hH (sub_cons (sub_nil _) 900 rfl)
        refine r_take 0 hF rfl rfl rfl (by kernel_rfl) (by kernel_rfl) (by kernel_rfl) (fun _ _ _ h => h) rfl hS (fun w hS => x_move (hF.tmp 7 rfl)) rfl ?_; clear hF; intro a hF
        refine r_take 1 hF rfl rfl rfl (by kernel_rfl) (by kernel_rfl) (by kernel_rfl) (fun _ _ _ h => h) rfl hS (fun w hS => x_move (hF.tmp 1 rfl)) rfl ?_; clear hF; intro a hF
        refine r_take 2 hF rfl rfl rfl (by kernel_rfl) (by kernel_rfl) (by kernel_rfl) (fun _ _ _ h => h) rfl hS (fun w hS => x_gtr (hF.tmp 16 rfl) (hF.tmp 17 rfl)) rfl ?_; clear hF; intro a hF
        refine r_take 3 hF rfl rfl rfl (by kernel_rfl) (by kernel_rfl) (by kernel_rfl) (fun _ _ _ h => h) rfl hS (fun w hS => x_move (hF.tmp 18 rfl)) rfl ?_; clear hF; intro a hF
        refine split_bool hF 19 rfl (fun hb19 => ?_) (fun hb19 => ?_)
        · have hc19 := hb19; try simp only [Bool.or_eq_true, Bool.and_eq_true, Bool.or_eq_false_iff, Bool.and_eq_false_iff, Bool.not_eq_true', Bool.not_eq_false', decide_eq_true_eq, decide_eq_false_iff_not, Bool.not_true, Bool.not_false] at hc19
          refine r_take 4 hF rfl rfl rfl (by kernel_rfl) (by kernel_rfl) (by kernel_rfl) (fun _ _ _ h => h) ((wanted_of hF rfl rfl rfl rfl).trans (by rw [hb19]; rfl)) hS (fun w hS => x_move (hF.tmp 0 rfl)) rfl ?_; clear hF; intro a hF
          refine r_take 5 hF rfl rfl rfl (by kernel_rfl) (by kernel_rfl) (by kernel_rfl) (fun _ _ _ h => h) ((wanted_of hF rfl rfl rfl rfl).trans (by rw [hb19]; rfl)) hS (fun w hS => x_move (hF.tmp 7 rfl)) rfl ?_; clear hF; intro a hF
          refine r_take 6 hF rfl rfl rfl (by kernel_rfl) (by kernel_rfl) (by kernel_rfl) (fun _ _ _ h => h) ((wanted_of hF rfl rfl rfl rfl).trans (by rw [hb19]; rfl)) hS (fun w hS => x_iaddrV Try.underlying72 ty5 (hH.row 900 rfl) (hF.tmp 20 rfl) (hF.tmp 21 rfl) (by omega) (by omega) _) rfl ?_; clear hF; intro a hF
          refine r_take 7 hF rfl rfl rfl (by kernel_rfl) (by kernel_rfl) (by kernel_rfl) (fun _ _ _ h => h) ((wanted_of hF rfl rfl rfl rfl).trans (by rw [hb19]; rfl)) hS (fun w hS => x_load1 ty5 (hF.tmp 22 rfl) ((Row.rdV (SL.row hS 900 rfl)).cellA (gi_some (xs := dj.toList) (i := (j : Int)) (by omega) (by omega)))) rfl ?_; clear hF; intro a hF
          refine r_take 8 hF rfl rfl rfl (by kernel_rfl) (by kernel_rfl) (by kernel_rfl) (fun _ _ _ h => h) ((wanted_of hF rfl rfl rfl rfl).trans (by rw [hb19]; rfl)) hS (fun w hS => x_move (hF.tmp 0 rfl)) rfl ?_; clear hF; intro a hF
          refine r_take 9 hF rfl rfl rfl (by kernel_rfl) (by kernel_rfl) (by kernel_rfl) (fun _ _ _ h => h) ((wanted_of hF rfl rfl rfl rfl).trans (by rw [hb19]; rfl)) hS (fun w hS => x_move (hF.tmp 7 rfl)) rfl ?_; clear hF; intro a hF
          refine r_take 10 hF rfl rfl rfl (by kernel_rfl) (by kernel_rfl) (by kernel_rfl) (fun _ _ _ h => h) ((wanted_of hF rfl rfl rfl rfl).trans (by rw [hb19]; rfl)) hS (fun w hS => x_sub (hF.tmp 25 rfl) rfl (show IntKind.i64.wrap _ = ((j - 1 : Nat) : Int) from by rw [w64 (by omega) (by omega)] <;> omega)) rfl ?_; clear hF; intro a hF
          refine r_take 11 hF rfl rfl rfl (by kernel_rfl) (by kernel_rfl) (by kernel_rfl) (fun _ _ _ h => h) ((wanted_of hF rfl rfl rfl rfl).trans (by rw [hb19]; rfl)) hS (fun w hS => x_iaddrV Try.underlying72 ty5 (hH.row 900 rfl) (hF.tmp 24 rfl) (hF.tmp 26 rfl) (by omega) (by omega) _) rfl ?_; clear hF; intro a hF
          refine r_take 12 hF rfl rfl rfl (by kernel_rfl) (by kernel_rfl) (by kernel_rfl) (fun _ _ _ h => h) ((wanted_of hF rfl rfl rfl rfl).trans (by rw [hb19]; rfl)) hS (fun w hS => x_load1 ty5 (hF.tmp 27 rfl) ((Row.rdV (SL.row hS 900 rfl)).cellA (gi_some (xs := dj.toList) (i := ((j - 1 : Nat) : Int)) (by omega) (by omega)))) rfl ?_; clear hF; intro a hF
          refine r_do 13 rfl (by kernel_rfl) ((wanted_of hF rfl rfl rfl rfl).trans (by rw [hb19]; rfl)) rfl ?_
          refine w_call hF (x_enter Try.func51 (by kernel_rfl) rfl (by simp only [List.map_toArray, List.map_cons, List.map_nil, hF.tmp 23 rfl, hF.tmp 28 rfl] <;> rfl)) (less_calls _ _ _) rfl rfl ?_
          rintro _ w ⟨rfl, hm_⟩; refine ⟨_, rfl, ?_⟩; clear hF; intro a hF; have hH := hH.same hm_
          clear hS; have hS : SL _ _ := SL.of hH (sub_cons (sub_nil _) 900 rfl); refine ⟨hS, ?_⟩
          refine r_take 14 hF rfl rfl rfl (by kernel_rfl) (by kernel_rfl) (by kernel_rfl) (fun _ _ _ h => h) rfl hS (fun w hS => x_pickT (hF.tmp 19 rfl) hb19 (hF.tmp 29 rfl)) rfl ?_; clear hF; intro a hF
          refine r_end (by kernel_rfl) ?_; clear hS
          refine hK7 _ _ ?_
          refine wp_cond_split (hF.tmp 30 rfl) (fun hc30 => ?_) (fun hc30 => ?_)
          · have hk30_2 := hc30; try simp only [Bool.or_eq_true, Bool.and_eq_true, Bool.or_eq_false_iff, Bool.and_eq_false_iff, Bool.not_eq_true', Bool.not_eq_false', decide_eq_true_eq, decide_eq_false_iff_not, Bool.not_true, Bool.not_false] at hc30
            have hlt : gi dj.toList (j : Int) < gi dj.toList ((j - 1 : Nat) : Int) := hc30
            refine wp_skip ?_
            refine hK6 _ _ ?_
            refine wp_seq_k fun khK8 hK8 => ?_
            refine wp_block ?_
            refine wp_norm_k fun khK9 hK9 => ?_
            have hJr6 : ∀ a w, Fr 49 a [(0, v), (1, .int .i64 (la : Int)), (2, .int .i64 (lb : Int)), (6, .int .i64 (i : Int)), (7, .int .i64 (j : Int))] → Hp (fun k => v.ownBlock = some k) w0 w [(900, .row RB 5 v (swp dj j (j - 1)).toList (fun _ => False))] → khK9 a w := by
              intro a w  hF hH
              refine hK9 a w ?_
              refine hK8 _ _ ?_
              refine wp_region_lit ?_
              refine l_at hF rfl rfl rfl (x_move (hF.tmp 7 rfl)) ?_; clear hF; intro a hF
              refine l_at hF rfl rfl rfl (x_sub (hF.tmp 31 rfl) rfl (show IntKind.i64.wrap _ = ((j - 1 : Nat) : Int) from by rw [w64 (by omega) (by omega)] <;> omega)) ?_; clear hF; intro a hF
              refine l_at hF rfl rfl rfl (x_assign (hF.tmp 32 rfl)) ?_; clear hF; intro a hF
              refine wpList_nil ?_
              exact ⟨_, by omega, ⟨j - 1, (swp dj j (j - 1)), rfl, by omega, by omega, (by rw [swp_size]; exact hq2_2), (by rw [ins_step (by omega) hlt]; exact hq2_3), (((((hF.bare.add hF 7 rfl).add hF 6 rfl).add hF 2 rfl).add hF 1 rfl).add hF 0 rfl), hH.sub _ (sub_cons (sub_nil _) 900 rfl)⟩⟩
            refine r_start [] (by kernel_rfl) hH fun hH => ?_
            have hS : SL [] _ := SL.of hH (sub_nil _)
            refine r_take 0 hF rfl rfl rfl (by kernel_rfl) (by kernel_rfl) (by kernel_rfl) (fun _ _ _ h => h) rfl hS (fun w hS => x_move (hF.tmp 0 rfl)) rfl ?_; clear hF; intro a hF
            refine r_take 1 hF rfl rfl rfl (by kernel_rfl) (by kernel_rfl) (by kernel_rfl) (fun _ _ _ h => h) rfl hS (fun w hS => x_move (hF.tmp 7 rfl)) rfl ?_; clear hF; intro a hF
            refine r_take 2 hF rfl rfl rfl (by kernel_rfl) (by kernel_rfl) (by kernel_rfl) (fun _ _ _ h => h) rfl hS (fun w hS => x_move (hF.tmp 0 rfl)) rfl ?_; clear hF; intro a hF
            refine r_take 3 hF rfl rfl rfl (by kernel_rfl) (by kernel_rfl) (by kernel_rfl) (fun _ _ _ h => h) rfl hS (fun w hS => x_move (hF.tmp 7 rfl)) rfl ?_; clear hF; intro a hF
            refine r_take 4 hF rfl rfl rfl (by kernel_rfl) (by kernel_rfl) (by kernel_rfl) (fun _ _ _ h => h) rfl hS (fun w hS => x_sub (hF.tmp 36 rfl) rfl (show IntKind.i64.wrap _ = ((j - 1 : Nat) : Int) from by rw [w64 (by omega) (by omega)] <;> omega)) rfl ?_; clear hF; intro a hF
            refine r_take 5 hF rfl rfl rfl (by kernel_rfl) (by kernel_rfl) (by kernel_rfl) (fun _ _ _ h => h) rfl hS (fun w hS => x_move (hF.tmp 0 rfl)) rfl ?_; clear hF; intro a hF
            refine r_take 6 hF rfl rfl rfl (by kernel_rfl) (by kernel_rfl) (by kernel_rfl) (fun _ _ _ h => h) rfl hS (fun w hS => x_move (hF.tmp 7 rfl)) rfl ?_; clear hF; intro a hF
            refine r_take 7 hF rfl rfl rfl (by kernel_rfl) (by kernel_rfl) (by kernel_rfl) (fun _ _ _ h => h) rfl hS (fun w hS => x_sub (hF.tmp 39 rfl) rfl (show IntKind.i64.wrap _ = ((j - 1 : Nat) : Int) from by rw [w64 (by omega) (by omega)] <;> omega)) rfl ?_; clear hF; intro a hF
            refine r_take 8 hF rfl rfl rfl (by kernel_rfl) (by kernel_rfl) (by kernel_rfl) (fun _ _ _ h => h) rfl hS (fun w hS => x_iaddrV Try.underlying72 ty5 (hH.row 900 rfl) (hF.tmp 38 rfl) (hF.tmp 40 rfl) (by omega) (by omega) _) rfl ?_; clear hF; intro a hF
            refine r_take 10 hF rfl rfl rfl (by kernel_rfl) (by kernel_rfl) (by kernel_rfl) (fun _ _ _ h => h) rfl hS (fun w hS => x_move (hF.tmp 0 rfl)) rfl ?_; clear hF; intro a hF
            refine r_take 11 hF rfl rfl rfl (by kernel_rfl) (by kernel_rfl) (by kernel_rfl) (fun _ _ _ h => h) rfl hS (fun w hS => x_move (hF.tmp 7 rfl)) rfl ?_; clear hF; intro a hF
            refine r_take 12 hF rfl rfl rfl (by kernel_rfl) (by kernel_rfl) (by kernel_rfl) (fun _ _ _ h => h) rfl hS (fun w hS => x_iaddrV Try.underlying72 ty5 (hH.row 900 rfl) (hF.tmp 43 rfl) (hF.tmp 44 rfl) (by omega) (by omega) _) rfl ?_; clear hF; intro a hF
            refine r_do2 9 13 rfl rfl (by kernel_rfl) rfl rfl rfl rfl ?_ ?_
            ·
              refine w_at hF (x_load1 ty5 (hF.tmp 41 rfl) ((Row.rdV (hH.row 900 rfl)).cellA (gi_some (xs := dj.toList) (i := ((j - 1 : Nat) : Int)) (by omega) (by omega)))) rfl rfl ?_
              clear hF; intro a hF
              clear hS; have hS : SL _ _ := SL.of hH (sub_nil _); refine ⟨hS, ?_⟩
              refine r_do 13 rfl (by kernel_rfl) rfl rfl ?_
              refine w_at hF (x_load1 ty5 (hF.tmp 45 rfl) ((Row.rdV (hH.row 900 rfl)).cellA (gi_some (xs := dj.toList) (i := (j : Int)) (by omega) (by omega)))) rfl rfl ?_
              clear hF; intro a hF
              clear hS; have hS : SL _ _ := SL.of hH (sub_nil _); refine ⟨hS, ?_⟩
              refine r_take 14 hF rfl rfl rfl (by kernel_rfl) (by kernel_rfl) (by kernel_rfl) (fun _ _ _ h => h) rfl hS (fun w hS => x_iaddrV Try.underlying72 ty5 (hH.row 900 rfl) (hF.tmp 33 rfl) (hF.tmp 34 rfl) (by omega) (by omega) _) rfl ?_; clear hF; intro a hF
              refine r_do 15 rfl (by kernel_rfl) rfl rfl ?_
              refine w_setV (xs := dj.toList) 900 j (gi dj.toList (((j - 1) : Nat) : Int)) hH ty5 rfl (by first | omega | (simp only [List.length_set]; omega)) (hF.tmp 47 rfl) (hF.tmp 42 rfl) ?_
              clear hH; intro w hH
              clear hS; have hS : SL _ _ := SL.of hH (sub_nil _); refine ⟨hS, ?_⟩
              refine r_take 16 hF rfl rfl rfl (by kernel_rfl) (by kernel_rfl) (by kernel_rfl) (fun _ _ _ h => h) rfl hS (fun w hS => x_iaddrV Try.underlying72 ty5 (hH.row 900 rfl) (hF.tmp 35 rfl) (hF.tmp 37 rfl) (by omega) (by first | omega | (simp only [List.length_set]; omega)) _) rfl ?_; clear hF; intro a hF
              refine r_do 17 rfl (by kernel_rfl) rfl rfl ?_
              refine w_setV (xs := (dj.toList.set j (gi dj.toList (((j - 1) : Nat) : Int)))) 900 (j - 1) (gi dj.toList ((j : Nat) : Int)) hH ty5 rfl (by first | omega | (simp only [List.length_set]; omega)) (hF.tmp 48 rfl) (hF.tmp 46 rfl) ?_
              clear hH; intro w hH
              clear hS; have hS : SL _ _ := SL.of hH (sub_nil _); refine ⟨hS, ?_⟩
              have hH := hH.relab 900 (Y := .row RB 5 v (swp dj j (j - 1)).toList (fun _ => False)) rfl (by rw [swp_list])
              refine r_end (by kernel_rfl) ?_; clear hS
              exact hJr6 _ _  (((((hF.bare.add hF 7 rfl).add hF 6 rfl).add hF 2 rfl).add hF 1 rfl).add hF 0 rfl) (hH.sub _ (sub_cons (sub_nil _) 900 rfl))
            ·
              refine w_at hF (x_load1 ty5 (hF.tmp 45 rfl) ((Row.rdV (hH.row 900 rfl)).cellA (gi_some (xs := dj.toList) (i := (j : Int)) (by omega) (by omega)))) rfl rfl ?_
              clear hF; intro a hF
              clear hS; have hS : SL _ _ := SL.of hH (sub_nil _); refine ⟨hS, ?_⟩
              refine r_do 9 rfl (by kernel_rfl) rfl rfl ?_
              refine w_at hF (x_load1 ty5 (hF.tmp 41 rfl) ((Row.rdV (hH.row 900 rfl)).cellA (gi_some (xs := dj.toList) (i := ((j - 1 : Nat) : Int)) (by omega) (by omega)))) rfl rfl ?_
              clear hF; intro a hF
              clear hS; have hS : SL _ _ := SL.of hH (sub_nil _); refine ⟨hS, ?_⟩
              refine r_take 14 hF rfl rfl rfl (by kernel_rfl) (by kernel_rfl) (by kernel_rfl) (fun _ _ _ h => h) rfl hS (fun w hS => x_iaddrV Try.underlying72 ty5 (hH.row 900 rfl) (hF.tmp 33 rfl) (hF.tmp 34 rfl) (by omega) (by omega) _) rfl ?_; clear hF; intro a hF
              refine r_do 15 rfl (by kernel_rfl) rfl rfl ?_
              refine w_setV (xs := dj.toList) 900 j (gi dj.toList (((j - 1) : Nat) : Int)) hH ty5 rfl (by first | omega | (simp only [List.length_set]; omega)) (hF.tmp 47 rfl) (hF.tmp 42 rfl) ?_
              clear hH; intro w hH
              clear hS; have hS : SL _ _ := SL.of hH (sub_nil _); refine ⟨hS, ?_⟩
              refine r_take 16 hF rfl rfl rfl (by kernel_rfl) (by kernel_rfl) (by kernel_rfl) (fun _ _ _ h => h) rfl hS (fun w hS => x_iaddrV Try.underlying72 ty5 (hH.row 900 rfl) (hF.tmp 35 rfl) (hF.tmp 37 rfl) (by omega) (by first | omega | (simp only [List.length_set]; omega)) _) rfl ?_; clear hF; intro a hF
              refine r_do 17 rfl (by kernel_rfl) rfl rfl ?_
              refine w_setV (xs := (dj.toList.set j (gi dj.toList (((j - 1) : Nat) : Int)))) 900 (j - 1) (gi dj.toList ((j : Nat) : Int)) hH ty5 rfl (by first | omega | (simp only [List.length_set]; omega)) (hF.tmp 48 rfl) (hF.tmp 46 rfl) ?_
              clear hH; intro w hH
              clear hS; have hS : SL _ _ := SL.of hH (sub_nil _); refine ⟨hS, ?_⟩
              have hH := hH.relab 900 (Y := .row RB 5 v (swp dj j (j - 1)).toList (fun _ => False)) rfl (by rw [swp_list])
              refine r_end (by kernel_rfl) ?_; clear hS
              exact hJr6 _ _  (((((hF.bare.add hF 7 rfl).add hF 6 rfl).add hF 2 rfl).add hF 1 rfl).add hF 0 rfl) (hH.sub _ (sub_cons (sub_nil _) 900 rfl))
          · have hk30_3 := hc30; try simp only [Bool.or_eq_true, Bool.and_eq_true, Bool.or_eq_false_iff, Bool.and_eq_false_iff, Bool.not_eq_true', Bool.not_eq_false', decide_eq_true_eq, decide_eq_false_iff_not, Bool.not_true, Bool.not_false] at hc30
            refine wp_exit ?_
            refine hK4 _ _ ?_
            refine wp_region_lit ?_
            refine l_at hF rfl rfl rfl (x_move (hF.tmp 6 rfl)) ?_; clear hF; intro a hF
            refine l_at hF rfl rfl rfl (x_add (hF.tmp 13 rfl) rfl (show IntKind.i64.wrap _ = ((i + 1 : Nat) : Int) from by rw [w64 (by omega) (by omega)] <;> omega)) ?_; clear hF; intro a hF
            refine l_at hF rfl rfl rfl (x_assign (hF.tmp 14 rfl)) ?_; clear hF; intro a hF
            refine wpList_nil ?_
            exact ⟨_, by omega, ⟨i + 1, dj, rfl, by omega, by omega, hq2_2, (by rw [← hq0_3, ins_outer (i := i) (d := dk) (by omega), ← hq2_3, ins_stop2 hc30]), ((((hF.bare.add hF 6 rfl).add hF 2 rfl).add hF 1 rfl).add hF 0 rfl), hH.sub _ (sub_cons (sub_nil _) 900 rfl)⟩⟩
        · have hc19 := hb19; try simp only [Bool.or_eq_true, Bool.and_eq_true, Bool.or_eq_false_iff, Bool.and_eq_false_iff, Bool.not_eq_true', Bool.not_eq_false', decide_eq_true_eq, decide_eq_false_iff_not, Bool.not_true, Bool.not_false] at hc19
          refine r_off 4 hF rfl rfl rfl (by kernel_rfl) (by kernel_rfl) (by kernel_rfl) (fun _ _ _ h => h) ((wanted_of hF rfl rfl rfl rfl).trans (by rw [hb19]; rfl)) hS rfl ?_; clear hF; intro a hF
          refine r_off 5 hF rfl rfl rfl (by kernel_rfl) (by kernel_rfl) (by kernel_rfl) (fun _ _ _ h => h) ((wanted_of hF rfl rfl rfl rfl).trans (by rw [hb19]; rfl)) hS rfl ?_; clear hF; intro a hF
          refine r_off 6 hF rfl rfl rfl (by kernel_rfl) (by kernel_rfl) (by kernel_rfl) (fun _ _ _ h => h) ((wanted_of hF rfl rfl rfl rfl).trans (by rw [hb19]; rfl)) hS rfl ?_; clear hF; intro a hF
          refine r_off 7 hF rfl rfl rfl (by kernel_rfl) (by kernel_rfl) (by kernel_rfl) (fun _ _ _ h => h) ((wanted_of hF rfl rfl rfl rfl).trans (by rw [hb19]; rfl)) hS rfl ?_; clear hF; intro a hF
          refine r_off 8 hF rfl rfl rfl (by kernel_rfl) (by kernel_rfl) (by kernel_rfl) (fun _ _ _ h => h) ((wanted_of hF rfl rfl rfl rfl).trans (by rw [hb19]; rfl)) hS rfl ?_; clear hF; intro a hF
          refine r_off 9 hF rfl rfl rfl (by kernel_rfl) (by kernel_rfl) (by kernel_rfl) (fun _ _ _ h => h) ((wanted_of hF rfl rfl rfl rfl).trans (by rw [hb19]; rfl)) hS rfl ?_; clear hF; intro a hF
          refine r_off 10 hF rfl rfl rfl (by kernel_rfl) (by kernel_rfl) (by kernel_rfl) (fun _ _ _ h => h) ((wanted_of hF rfl rfl rfl rfl).trans (by rw [hb19]; rfl)) hS rfl ?_; clear hF; intro a hF
          refine r_off 11 hF rfl rfl rfl (by kernel_rfl) (by kernel_rfl) (by kernel_rfl) (fun _ _ _ h => h) ((wanted_of hF rfl rfl rfl rfl).trans (by rw [hb19]; rfl)) hS rfl ?_; clear hF; intro a hF
          refine r_off 12 hF rfl rfl rfl (by kernel_rfl) (by kernel_rfl) (by kernel_rfl) (fun _ _ _ h => h) ((wanted_of hF rfl rfl rfl rfl).trans (by rw [hb19]; rfl)) hS rfl ?_; clear hF; intro a hF
          refine r_off 13 hF rfl rfl rfl (by kernel_rfl) (by kernel_rfl) (by kernel_rfl) (fun _ _ _ h => h) ((wanted_of hF rfl rfl rfl rfl).trans (by rw [hb19]; rfl)) hS rfl ?_; clear hF; intro a hF
          refine r_take 14 hF rfl rfl rfl (by kernel_rfl) (by kernel_rfl) (by kernel_rfl) (fun _ _ _ h => h) rfl hS (fun w hS => x_pickF (hF.tmp 19 rfl) hb19 rfl) rfl ?_; clear hF; intro a hF
          refine r_end (by kernel_rfl) ?_; clear hS
          refine hK7 _ _ ?_
          refine wp_cond_false (hF.tmp 30 rfl) ?_
          refine wp_exit ?_
          refine hK4 _ _ ?_
          refine wp_region_lit ?_
          refine l_at hF rfl rfl rfl (x_move (hF.tmp 6 rfl)) ?_; clear hF; intro a hF
          refine l_at hF rfl rfl rfl (x_add (hF.tmp 13 rfl) rfl (show IntKind.i64.wrap _ = ((i + 1 : Nat) : Int) from by rw [w64 (by omega) (by omega)] <;> omega)) ?_; clear hF; intro a hF
          refine l_at hF rfl rfl rfl (x_assign (hF.tmp 14 rfl)) ?_; clear hF; intro a hF
          refine wpList_nil ?_
          exact ⟨_, by omega, ⟨i + 1, dj, rfl, by omega, by omega, hq2_2, (by rw [← hq0_3, ins_outer (i := i) (d := dk) (by omega), ← hq2_3, ins_stop1 (by omega)]), ((((hF.bare.add hF 6 rfl).add hF 2 rfl).add hF 1 rfl).add hF 0 rfl), hH.sub _ (sub_cons (sub_nil _) 900 rfl)⟩⟩
    · have hk12_4 := hc12; try simp only [Bool.or_eq_true, Bool.and_eq_true, Bool.or_eq_false_iff, Bool.and_eq_false_iff, Bool.not_eq_true', Bool.not_eq_false', decide_eq_true_eq, decide_eq_false_iff_not, Bool.not_true, Bool.not_false] at hc12
      refine wp_exit ?_
      try simp only [Exit.then, Exit.inBlock]
      try simp only [if_true]
      rw [ins_done (by omega)] at hq0_3
      exact fin_end hF (res0 rfl) ⟨rfl, hH.mods, by unfold insertionSort; rw [← hq0_3]; exact hH.row 900 rfl⟩

def lenTab : List Int := ([0, 1, 2, 2, 3, 3, 3, 3, 4, 4, 4, 4, 4, 4, 4, 4, 5, 5, 5, 5, 5, 5, 5, 5, 5, 5, 5, 5, 5, 5, 5, 5, 6, 6, 6, 6, 6, 6, 6, 6, 6, 6, 6, 6, 6, 6, 6, 6, 6, 6, 6, 6, 6, 6, 6, 6, 6, 6, 6, 6, 6, 6, 6, 6, 7, 7, 7, 7, 7, 7, 7, 7, 7, 7, 7, 7, 7, 7, 7, 7, 7, 7, 7, 7, 7, 7, 7, 7, 7, 7, 7, 7, 7, 7, 7, 7, 7, 7, 7, 7, 7, 7, 7, 7, 7, 7, 7, 7, 7, 7, 7, 7, 7, 7, 7, 7, 7, 7, 7, 7, 7, 7, 7, 7, 7, 7, 7, 7, 8, 8, 8, 8, 8, 8, 8, 8, 8, 8, 8, 8, 8, 8, 8, 8, 8, 8, 8, 8, 8, 8, 8, 8, 8, 8, 8, 8, 8, 8, 8, 8, 8, 8, 8, 8, 8, 8, 8, 8, 8, 8, 8, 8, 8, 8, 8, 8, 8, 8, 8, 8, 8, 8, 8, 8, 8, 8, 8, 8, 8, 8, 8, 8, 8, 8, 8, 8, 8, 8, 8, 8, 8, 8, 8, 8, 8, 8, 8, 8, 8, 8, 8, 8, 8, 8, 8, 8, 8, 8, 8, 8, 8, 8, 8, 8, 8, 8, 8, 8, 8, 8, 8, 8, 8, 8, 8, 8, 8, 8, 8, 8, 8, 8, 8, 8, 8, 8, 8, 8, 8, 8, 8, 8, 8, 8, 8, 8] : List Int)
theorem lenTab_byte : Byte lenTab := by unfold Byte lenTab; decide +kernel
theorem lenTab_len : lenTab.length = 256 := by decide +kernel
set_option maxRecDepth 100000 in
set_option maxHeartbeats 1000000 in
theorem len64_calls (w0 : World) (n : Nat) (hn : n < 18446744073709551616) : Calls Try.prog 55 #[.int .u64 (n : Int)] w0 fun e w' => ∃ l : Nat, e = .returned (.int .i64 (l : Int)) ∧ l ≤ 400 ∧ Mods (fun _ => False) w0 w' := by
  refine calls_of_wp Try.func55 rfl ?_
  have hF := Fr.enter #[.int .u64 (n : Int)] 25 (slotsOf [.int .u64 (n : Int)] 0) (Nat.le_of_ble_eq_true rfl) (fun i v h => by have h2 := (get_slotsOf _ 0 i v h).2; simpa only [List.getElem?_toArray, Nat.sub_zero] using h2)
  have hH := Hp.nil (fun _ => False) w0
  rw [Try.ntmps55]
  revert hF; generalize (⟨(#[.int .u64 (n : Int)] : Array Value) ++ Array.replicate (25 - (#[.int .u64 (n : Int)] : Array Value).size) undef, []⟩ : Act) = a; intro hF
  refine wp_seq_k fun khK1 hK1 => ?_
  refine wp_region_lit ?_
  refine l_at hF rfl rfl rfl (x_assign rfl) ?_; clear hF; intro a hF
  refine wpList_nil ?_
  refine hK1 _ _ ?_
  refine wp_seq_k fun khK2 hK2 => ?_
  refine wp_seq_k fun khK3 hK3 => ?_
  refine wp_region_lit ?_
  refine l_at hF rfl rfl rfl (x_move (hF.tmp 0 rfl)) ?_; clear hF; intro a hF
  refine l_at hF rfl rfl rfl (x_geq (hF.tmp 3 rfl) rfl) ?_; clear hF; intro a hF
  refine wpList_nil ?_
  refine hK3 _ _ ?_
  have hJ4 : ∀ a w, ∀ x4 : Nat, ∀ s4 : Nat, (x4 < 4294967296) → (s4 ≤ 32) → Fr 25 a [(0, .int .u64 (x4 : Int)), (2, .int .i64 (s4 : Int))] → Hp (fun _ => False) w0 w [] → khK2 a w := by
    intro a w x4 s4 hj4_0 hj4_1 hF hH
    refine hK2 a w ?_
    refine wp_seq_k fun khK4 hK4 => ?_
    refine wp_seq_k fun khK5 hK5 => ?_
    refine wp_region_lit ?_
    refine l_at hF rfl rfl rfl (x_move (hF.tmp 0 rfl)) ?_; clear hF; intro a hF
    refine l_at hF rfl rfl rfl (x_geq (hF.tmp 7 rfl) rfl) ?_; clear hF; intro a hF
    refine wpList_nil ?_
    refine hK5 _ _ ?_
    have hJ8 : ∀ a w, ∀ x8 : Nat, ∀ s8 : Nat, (x8 < 65536) → (s8 ≤ 48) → Fr 25 a [(0, .int .u64 (x8 : Int)), (2, .int .i64 (s8 : Int))] → Hp (fun _ => False) w0 w [] → khK4 a w := by
      intro a w x8 s8 hj8_0 hj8_1 hF hH
      refine hK4 a w ?_
      refine wp_seq_k fun khK6 hK6 => ?_
      refine wp_seq_k fun khK7 hK7 => ?_
      refine wp_region_lit ?_
      refine l_at hF rfl rfl rfl (x_move (hF.tmp 0 rfl)) ?_; clear hF; intro a hF
      refine l_at hF rfl rfl rfl (x_geq (hF.tmp 13 rfl) rfl) ?_; clear hF; intro a hF
      refine wpList_nil ?_
      refine hK7 _ _ ?_
      have hJ14 : ∀ a w, ∀ x14 : Nat, ∀ s14 : Nat, (x14 < 256) → (s14 ≤ 56) → Fr 25 a [(0, .int .u64 (x14 : Int)), (2, .int .i64 (s14 : Int))] → Hp (fun _ => False) w0 w [] → khK6 a w := by
        intro a w x14 s14 hj14_0 hj14_1 hF hH
        refine hK6 a w ?_
        refine wp_seq_k fun khK8 hK8 => ?_
        refine wp_region_lit ?_
        refine l_at hF rfl rfl rfl (x_move (hF.tmp 2 rfl)) ?_; clear hF; intro a hF
        refine l_at hF rfl rfl rfl (x_move (hF.tmp 0 rfl)) ?_; clear hF; intro a hF
        refine l_at hF rfl rfl rfl (x_conv Try.underlying5 ⟨_, Try.underlying95⟩ (hF.tmp 20 rfl) (wu8 (by omega) (by omega))) ?_; clear hF; intro a hF
        refine l_at hF rfl rfl rfl (x_idxS (xs := lenTab) Try.underlying9 (show _ = Value.string (strOfNums ([0, 1, 2, 2, 3, 3, 3, 3, 4, 4, 4, 4, 4, 4, 4, 4, 5, 5, 5, 5, 5, 5, 5, 5, 5, 5, 5, 5, 5, 5, 5, 5, 6, 6, 6, 6, 6, 6, 6, 6, 6, 6, 6, 6, 6, 6, 6, 6, 6, 6, 6, 6, 6, 6, 6, 6, 6, 6, 6, 6, 6, 6, 6, 6, 7, 7, 7, 7, 7, 7, 7, 7, 7, 7, 7, 7, 7, 7, 7, 7, 7, 7, 7, 7, 7, 7, 7, 7, 7, 7, 7, 7, 7, 7, 7, 7, 7, 7, 7, 7, 7, 7, 7, 7, 7, 7, 7, 7, 7, 7, 7, 7, 7, 7, 7, 7, 7, 7, 7, 7, 7, 7, 7, 7, 7, 7, 7, 7, 8, 8, 8, 8, 8, 8, 8, 8, 8, 8, 8, 8, 8, 8, 8, 8, 8, 8, 8, 8, 8, 8, 8, 8, 8, 8, 8, 8, 8, 8, 8, 8, 8, 8, 8, 8, 8, 8, 8, 8, 8, 8, 8, 8, 8, 8, 8, 8, 8, 8, 8, 8, 8, 8, 8, 8, 8, 8, 8, 8, 8, 8, 8, 8, 8, 8, 8, 8, 8, 8, 8, 8, 8, 8, 8, 8, 8, 8, 8, 8, 8, 8, 8, 8, 8, 8, 8, 8, 8, 8, 8, 8, 8, 8, 8, 8, 8, 8, 8, 8, 8, 8, 8, 8, 8, 8, 8, 8, 8, 8, 8, 8, 8, 8, 8, 8, 8, 8, 8, 8, 8, 8, 8, 8, 8, 8, 8, 8] : List Int)) by kernel_rfl) (hF.tmp 21 rfl) lenTab_byte (by omega) (by rw [lenTab_len]; omega)) ?_; clear hF; intro a hF
        have hlb := lenTab_byte.gi (x14 : Int)
        refine l_at hF rfl rfl rfl (x_conv Try.underlying3 ⟨_, Try.underlying5⟩ (hF.tmp 22 rfl) (w64 (by omega) (by omega))) ?_; clear hF; intro a hF
        refine l_at hF rfl rfl rfl (x_add (hF.tmp 19 rfl) (hF.tmp 23 rfl) (w64 (by omega) (by omega))) ?_; clear hF; intro a hF
        refine l_at hF rfl rfl rfl (x_assign (hF.tmp 24 rfl)) ?_; clear hF; intro a hF
        refine wpList_nil ?_
        refine hK8 _ _ ?_
        refine wp_ret ?_
        try simp only [Exit.then, Exit.inBlock]
        exact fin_ret hF (res1 hF rfl rfl) ⟨s14 + (gi lenTab (x14 : Int)).toNat, by congr 2; omega, by omega, hH.mods⟩
      refine wp_cond_split (hF.tmp 14 rfl) (fun hc14 => ?_) (fun hc14 => ?_)
      · have hk14_1 := hc14; try simp only [Bool.or_eq_true, Bool.and_eq_true, Bool.or_eq_false_iff, Bool.and_eq_false_iff, Bool.not_eq_true', Bool.not_eq_false', decide_eq_true_eq, decide_eq_false_iff_not, Bool.not_true, Bool.not_false] at hc14
        refine wp_seq_k fun khK9 hK9 => ?_
        refine wp_region_lit ?_
        refine l_at hF rfl rfl rfl (x_move (hF.tmp 0 rfl)) ?_; clear hF; intro a hF
        refine l_at hF rfl rfl rfl (x_shr (hF.tmp 15 rfl) rfl (by omega) (shq8 x8)) ?_; clear hF; intro a hF
        refine l_at hF rfl rfl rfl (x_assign (hF.tmp 16 rfl)) ?_; clear hF; intro a hF
        refine wpList_nil ?_
        refine hK9 _ _ ?_
        refine wp_region_lit ?_
        refine l_at hF rfl rfl rfl (x_move (hF.tmp 2 rfl)) ?_; clear hF; intro a hF
        refine l_at hF rfl rfl rfl (x_add (hF.tmp 17 rfl) rfl (show IntKind.i64.wrap _ = ((s8 + 8 : Nat) : Int) from by rw [w64 (by omega) (by omega)] <;> omega)) ?_; clear hF; intro a hF
        refine l_at hF rfl rfl rfl (x_assign (hF.tmp 18 rfl)) ?_; clear hF; intro a hF
        refine wpList_nil ?_
        exact hJ14 _ _ (x8 / 256) (s8 + 8) (by omega) (by omega) ((hF.bare.add hF 2 rfl).add hF 0 rfl) (hH.sub _ (sub_nil _))
      · have hk14_2 := hc14; try simp only [Bool.or_eq_true, Bool.and_eq_true, Bool.or_eq_false_iff, Bool.and_eq_false_iff, Bool.not_eq_true', Bool.not_eq_false', decide_eq_true_eq, decide_eq_false_iff_not, Bool.not_true, Bool.not_false] at hc14
        refine wp_skip ?_
        exact hJ14 _ _ x8 s8 (by omega) (by omega) ((hF.bare.add hF 2 rfl).add hF 0 rfl) (hH.sub _ (sub_nil _))
    refine wp_cond_split (hF.tmp 8 rfl) (fun hc8 => ?_) (fun hc8 => ?_)
    · have hk8_3 := hc8; try simp only [Bool.or_eq_true, Bool.and_eq_true, Bool.or_eq_false_iff, Bool.and_eq_false_iff, Bool.not_eq_true', Bool.not_eq_false', decide_eq_true_eq, decide_eq_false_iff_not, Bool.not_true, Bool.not_false] at hc8
      refine wp_seq_k fun khK10 hK10 => ?_
      refine wp_region_lit ?_
      refine l_at hF rfl rfl rfl (x_move (hF.tmp 0 rfl)) ?_; clear hF; intro a hF
      refine l_at hF rfl rfl rfl (x_shr (hF.tmp 9 rfl) rfl (by omega) (shq16 x4)) ?_; clear hF; intro a hF
      refine l_at hF rfl rfl rfl (x_assign (hF.tmp 10 rfl)) ?_; clear hF; intro a hF
      refine wpList_nil ?_
      refine hK10 _ _ ?_
      refine wp_region_lit ?_
      refine l_at hF rfl rfl rfl (x_move (hF.tmp 2 rfl)) ?_; clear hF; intro a hF
      refine l_at hF rfl rfl rfl (x_add (hF.tmp 11 rfl) rfl (show IntKind.i64.wrap _ = ((s4 + 16 : Nat) : Int) from by rw [w64 (by omega) (by omega)] <;> omega)) ?_; clear hF; intro a hF
      refine l_at hF rfl rfl rfl (x_assign (hF.tmp 12 rfl)) ?_; clear hF; intro a hF
      refine wpList_nil ?_
      exact hJ8 _ _ (x4 / 65536) (s4 + 16) (by omega) (by omega) ((hF.bare.add hF 2 rfl).add hF 0 rfl) (hH.sub _ (sub_nil _))
    · have hk8_4 := hc8; try simp only [Bool.or_eq_true, Bool.and_eq_true, Bool.or_eq_false_iff, Bool.and_eq_false_iff, Bool.not_eq_true', Bool.not_eq_false', decide_eq_true_eq, decide_eq_false_iff_not, Bool.not_true, Bool.not_false] at hc8
      refine wp_skip ?_
      exact hJ8 _ _ x4 s4 (by omega) (by omega) ((hF.bare.add hF 2 rfl).add hF 0 rfl) (hH.sub _ (sub_nil _))
  refine wp_cond_split (hF.tmp 4 rfl) (fun hc4 => ?_) (fun hc4 => ?_)
  · have hk4_5 := hc4; try simp only [Bool.or_eq_true, Bool.and_eq_true, Bool.or_eq_false_iff, Bool.and_eq_false_iff, Bool.not_eq_true', Bool.not_eq_false', decide_eq_true_eq, decide_eq_false_iff_not, Bool.not_true, Bool.not_false] at hc4
    refine wp_seq_k fun khK11 hK11 => ?_
    refine wp_region_lit ?_
    refine l_at hF rfl rfl rfl (x_move (hF.tmp 0 rfl)) ?_; clear hF; intro a hF
    refine l_at hF rfl rfl rfl (x_shr (hF.tmp 5 rfl) rfl (by omega) (shq32 n)) ?_; clear hF; intro a hF
    refine l_at hF rfl rfl rfl (x_assign (hF.tmp 6 rfl)) ?_; clear hF; intro a hF
    refine wpList_nil ?_
    refine hK11 _ _ ?_
    refine wp_region_lit ?_
    refine l_at hF rfl rfl rfl (x_assign rfl) ?_; clear hF; intro a hF
    refine wpList_nil ?_
    exact hJ4 _ _ (n / 4294967296) 32 (by omega) (by omega) ((hF.bare.add hF 2 rfl).add hF 0 rfl) (hH.sub _ (sub_nil _))
  · have hk4_6 := hc4; try simp only [Bool.or_eq_true, Bool.and_eq_true, Bool.or_eq_false_iff, Bool.and_eq_false_iff, Bool.not_eq_true', Bool.not_eq_false', decide_eq_true_eq, decide_eq_false_iff_not, Bool.not_true, Bool.not_false] at hc4
    refine wp_skip ?_
    exact hJ4 _ _ n 0 (by omega) (by omega) ((hF.bare.add hF 2 rfl).add hF 0 rfl) (hH.sub _ (sub_nil _))

set_option maxRecDepth 100000 in
set_option maxHeartbeats 1000000 in
theorem blen_calls (w0 : World) (n : Nat) (hn : n < 18446744073709551616) : Calls Try.prog 44 #[.int .u64 (n : Int)] w0 fun e w' => ∃ l : Nat, e = .returned (.int .i64 (l : Int)) ∧ l ≤ 400 ∧ Mods (fun _ => False) w0 w' := by
  refine calls_of_wp Try.func44 rfl ?_
  have hF := Fr.enter #[.int .u64 (n : Int)] 8 (slotsOf [.int .u64 (n : Int)] 0) (Nat.le_of_ble_eq_true rfl) (fun i v h => by have h2 := (get_slotsOf _ 0 i v h).2; simpa only [List.getElem?_toArray, Nat.sub_zero] using h2)
  have hH := Hp.nil (fun _ => False) w0
  rw [Try.ntmps44]
  revert hF; generalize (⟨(#[.int .u64 (n : Int)] : Array Value) ++ Array.replicate (8 - (#[.int .u64 (n : Int)] : Array Value).size) undef, []⟩ : Act) = a; intro hF
  refine wp_seq_k fun khK1 hK1 => ?_
  refine wp_region_lit ?_
  refine l_at hF rfl rfl rfl (x_assign rfl) ?_; clear hF; intro a hF
  refine wpList_nil ?_
  refine hK1 _ _ ?_
  refine wp_seq_k fun khK2 hK2 => ?_
  refine wp_cond_false rfl ?_
  refine wp_skip ?_
  refine hK2 _ _ ?_
  refine wp_seq_k fun khK3 hK3 => ?_
  refine wp_region_lit ?_
  refine l_at hF rfl rfl rfl (x_move (hF.tmp 0 rfl)) ?_; clear hF; intro a hF
  refine wpList_plain rfl fun K hK => ?_
  refine w_call hF (x_enter Try.func55 (by kernel_rfl) rfl (by simp only [List.map_toArray, List.map_cons, List.map_nil, hF.tmp 6 rfl] <;> rfl)) (len64_calls _ n hn) rfl rfl ?_
  rintro _ w ⟨l, rfl, hl4, hm_⟩; refine ⟨_, rfl, ?_⟩; clear hF; intro a hF; have hH := hH.same hm_
  refine hK _ _ ?_; clear hK K
  refine l_at hF rfl rfl rfl (x_assign (hF.tmp 7 rfl)) ?_; clear hF; intro a hF
  refine wpList_nil ?_
  refine hK3 _ _ ?_
  refine wp_ret ?_
  try simp only [Exit.then, Exit.inBlock]
  exact fin_ret hF (res1 hF rfl rfl) ⟨l, rfl, hl4, hH.mods⟩

set_option maxRecDepth 100000 in
set_option maxHeartbeats 1000000 in
theorem pdq_calls (w0 : World) {v : Value} {d : Array Int} (h : Row RB 5 w0 (fun _ => False) v d.toList) {la lb lim : Nat} (hab : la ≤ lb) (hb : lb ≤ d.size) (hk : d.size ≤ kmax) (hbl : Go.Sort.Below ltInt la lb d) : Calls Try.prog 43 #[v, .int .i64 (la : Int), .int .i64 (lb : Int), .int .i64 (lim : Int)] w0 fun e w' => ∃ d' : Array Int, e = .returned (.tuple #[]) ∧ Mods (fun k => v.ownBlock = some k) w0 w' ∧ Row RB 5 w' (fun _ => False) v d'.toList ∧ PermIn la lb d d' ∧ SortedIn ltInt la lb d' := by
  unfold kmax at hk
  refine calls_of_wp Try.func43 rfl ?_
  have hF := Fr.enter #[v, .int .i64 (la : Int), .int .i64 (lb : Int), .int .i64 (lim : Int)] 134 (slotsOf [v, .int .i64 (la : Int), .int .i64 (lb : Int), .int .i64 (lim : Int)] 0) (Nat.le_of_ble_eq_true rfl) (fun i v h => by have h2 := (get_slotsOf _ 0 i v h).2; simpa only [List.getElem?_toArray, Nat.sub_zero] using h2)
  rw [Try.ntmps43]
  revert hF; generalize (⟨(#[v, .int .i64 (la : Int), .int .i64 (lb : Int), .int .i64 (lim : Int)] : Array Value) ++ Array.replicate (134 - (#[v, .int .i64 (la : Int), .int .i64 (lb : Int), .int .i64 (lim : Int)] : Array Value).size) undef, []⟩ : Act) = a; intro hF
  have hH := Hp.ownrow 900 h (fun _ h => h.elim) (fun _ _ h => h)
  have hdl : d.toList.length = d.size := by simp
  refine wp_seq_k fun khK1 hK1 => ?_
  refine wp_region_lit ?_
  refine l_at hF rfl rfl rfl (x_assign rfl) ?_; clear hF; intro a hF
  refine wpList_nil ?_
  refine hK1 _ _ ?_
  refine wp_seq_k fun khK2 hK2 => ?_
  refine wp_region_lit ?_
  refine l_at hF rfl rfl rfl (x_assign rfl) ?_; clear hF; intro a hF
  refine wpList_nil ?_
  refine hK2 _ _ ?_
  refine wp_block ?_
  refine wp_loop_ghost (fun n_ a w => n_ = 0 ∧ Fr 134 a [(0, v), (1, .int .i64 (la : Int)), (2, .int .i64 (lb : Int)), (3, .int .i64 (lim : Int)), (8, .bool true), (9, .bool true)] ∧ Hp (fun k => v.ownBlock = some k) w0 w [(900, .row RB 5 v d.toList (fun _ => False))]) (0) ?_ ?_
  · exact ⟨rfl, ((((((hF.bare.add hF 9 rfl).add hF 8 rfl).add hF 3 rfl).add hF 2 rfl).add hF 1 rfl).add hF 0 rfl), hH.sub _ (sub_cons (sub_nil _) 900 rfl)⟩
  · rintro _ a w ⟨rfl, hF, hH⟩
    refine wp_block ?_
    refine wp_seq_k fun khK3 hK3 => ?_
    refine wp_region_lit ?_
    refine l_at hF rfl rfl rfl (x_move (hF.tmp 2 rfl)) ?_; clear hF; intro a hF
    refine l_at hF rfl rfl rfl (x_move (hF.tmp 1 rfl)) ?_; clear hF; intro a hF
    refine l_at hF rfl rfl rfl (x_sub (hF.tmp 19 rfl) (hF.tmp 20 rfl) (show IntKind.i64.wrap _ = ((lb - la : Nat) : Int) from by rw [w64 (by omega) (by omega)] <;> omega)) ?_; clear hF; intro a hF
    refine l_at hF rfl rfl rfl (x_assign (hF.tmp 21 rfl)) ?_; clear hF; intro a hF
    refine wpList_nil ?_
    refine hK3 _ _ ?_
    refine wp_seq_k fun khK4 hK4 => ?_
    refine wp_seq_k fun khK5 hK5 => ?_
    refine wp_region_lit ?_
    refine l_at hF rfl rfl rfl (x_move (hF.tmp 10 rfl)) ?_; clear hF; intro a hF
    refine l_at hF rfl rfl rfl (x_leq (hF.tmp 22 rfl) rfl) ?_; clear hF; intro a hF
    refine wpList_nil ?_
    refine hK5 _ _ ?_
    refine wp_cond_true ((hF.tmp 23 rfl).trans (by rw [decide_eq_true (by omega)])) ?_
    refine wp_seq_k fun khK6 hK6 => ?_
    refine wp_region_lit ?_
    refine l_at hF rfl rfl rfl (x_move (hF.tmp 0 rfl)) ?_; clear hF; intro a hF
    refine l_at hF rfl rfl rfl (x_move (hF.tmp 1 rfl)) ?_; clear hF; intro a hF
    refine l_at hF rfl rfl rfl (x_move (hF.tmp 2 rfl)) ?_; clear hF; intro a hF
    refine wpList_plain rfl fun K hK => ?_
    refine w_call hF (x_enter Try.func45 (by kernel_rfl) rfl (by simp only [List.map_toArray, List.map_cons, List.map_nil, hF.tmp 24 rfl, hF.tmp 25 rfl, hF.tmp 26 rfl] <;> rfl)) (inssort_calls _ (hH.row 900 rfl) hab hb (by omega)) rfl rfl ?_
    rintro _ w ⟨rfl, hm_, hr_⟩; refine ⟨_, rfl, ?_⟩; clear hF; intro a hF; have hH := hH.rowSame 900 rfl hm_ hr_ rfl
    refine hK _ _ ?_; clear hK K
    refine wpList_nil ?_
    refine hK6 _ _ ?_
    refine wp_ret ?_
    try simp only [Exit.then, Exit.inBlock]
    have hi := insertionSort_holds (lt := ltInt) swo_ltInt d la lb hab hb
    exact fin_ret hF (res0 rfl) ⟨_, rfl, hH.mods, hH.row 900 rfl, hi.1, hi.2⟩

set_option maxRecDepth 100000 in
set_option maxHeartbeats 1000000 in
theorem sort_calls (w0 : World) {v : Value} {d : Array Int} (h : Row RB 5 w0 (fun _ => False) v d.toList) (hk : d.size ≤ kmax) : Calls Try.prog 40 #[v] w0 fun e w' => e = .returned (.tuple #[]) ∧ Mods (fun k => v.ownBlock = some k) w0 w' ∧ Row RB 5 w' (fun _ => False) v (sortB d.toList) := by
  refine calls_of_wp Try.func40 rfl ?_
  have hF := Fr.enter #[v] 11 (slotsOf [v] 0) (Nat.le_of_ble_eq_true rfl) (fun i v h => by have h2 := (get_slotsOf _ 0 i v h).2; simpa only [List.getElem?_toArray, Nat.sub_zero] using h2)
  rw [Try.ntmps40]
  revert hF; generalize (⟨(#[v] : Array Value) ++ Array.replicate (11 - (#[v] : Array Value).size) undef, []⟩ : Act) = a; intro hF
  have hH := Hp.ownrow 900 h (fun _ h => h.elim) (fun _ _ h => h)
  have hdl : d.toList.length = d.size := by simp
  refine wp_seq_k fun khK1 hK1 => ?_
  refine wp_region_lit ?_
  refine l_at hF rfl rfl rfl (x_move (hF.tmp 0 rfl)) ?_; clear hF; intro a hF
  refine l_at hF rfl rfl rfl (x_lenV (A := none) (hH.row 900 rfl) Try.underlying72 (hF.tmp 3 rfl)) ?_; clear hF; intro a hF
  refine l_at hF rfl rfl rfl (x_assign (hF.tmp 4 rfl)) ?_; clear hF; intro a hF
  refine wpList_nil ?_
  refine hK1 _ _ ?_
  refine wp_region_lit ?_
  refine l_at hF rfl rfl rfl (x_move (hF.tmp 0 rfl)) ?_; clear hF; intro a hF
  refine l_at hF rfl rfl rfl (x_move (hF.tmp 2 rfl)) ?_; clear hF; intro a hF
  refine l_at hF rfl rfl rfl (x_move (hF.tmp 2 rfl)) ?_; clear hF; intro a hF
  refine l_at hF rfl rfl rfl (x_conv Try.underlying82 ⟨_, Try.underlying3⟩ (hF.tmp 7 rfl) (wu64 (by omega) (by unfold kmax at hk; omega))) ?_; clear hF; intro a hF
  refine wpList_plain rfl fun K hK => ?_
  refine w_call hF (x_enter Try.func44 (by kernel_rfl) rfl (by simp only [List.map_toArray, List.map_cons, List.map_nil, hF.tmp 8 rfl] <;> rfl)) (blen_calls _ d.toList.length (by unfold kmax at hk; omega)) rfl rfl ?_
  rintro _ w ⟨l, rfl, hl4, hm_⟩; refine ⟨_, rfl, ?_⟩; clear hF; intro a hF; have hH := hH.same hm_
  refine hK _ _ ?_; clear hK K
  refine wpList_plain rfl fun K hK => ?_
  refine w_call hF (x_enter Try.func43 (by kernel_rfl) rfl (by simp only [List.map_toArray, List.map_cons, List.map_nil, hF.tmp 5 rfl, hF.tmp 6 rfl, hF.tmp 9 rfl] <;> rfl)) (pdq_calls _ (hH.row 900 rfl) (la := 0) (lb := d.toList.length) (Nat.zero_le _) (by omega) hk (.inl rfl)) rfl rfl ?_
  rintro _ w ⟨d2, rfl, hm_, hr_, hp_, hs_⟩; refine ⟨_, rfl, ?_⟩; clear hF; intro a hF; have hH := hH.rowSame 900 rfl hm_ hr_ rfl
  refine hK _ _ ?_; clear hK K
  refine wpList_nil ?_
  try simp only [Exit.then, Exit.inBlock]
  try simp only [if_true]
  rw [hdl] at hp_ hs_
  have hres := sorted_sortB d d2 hp_ hs_
  exact fin_end hF (res0 rfl) ⟨rfl, hH.mods, by rw [← hres]; exact hH.row 900 rfl⟩

set_option maxRecDepth 100000 in
set_option maxHeartbeats 1000000 in
theorem keys1_tells (w0 : World) {bb bm : Nat} {m : List (Int × Nat)} (hLI : (Asn.all [(1, .ro (.blk bb (.cells #[.map (some bm)] 60 (0, 0)))), (2, .ro (.map KB NV bm m noB))]).holds w0) : Iterates Try.prog 41 #[.pointer (some ⟨bb, 0, none⟩)] EncB [(1, .ro (.blk bb (.cells #[.map (some bm)] 60 (0, 0)))), (2, .ro (.map KB NV bm m noB))] (fun _ => False) (fun xs => xs.Perm (m.map (·.1))) w0 := by
  intro l JP DN X hX h1 h2 hR0 hJ0
  rw [show (#[.func (.yield l) #[] #[]] ++ #[.pointer (some ⟨bb, 0, none⟩)] : Array Value) = #[.func (.yield l) #[] #[], .pointer (some ⟨bb, 0, none⟩)] from rfl]
  refine calls_of_wp Try.func41 rfl ?_
  have hF := Fr.enter #[.func (.yield l) #[] #[], .pointer (some ⟨bb, 0, none⟩)] 14 (slotsOf [.func (.yield l) #[] #[], .pointer (some ⟨bb, 0, none⟩)] 0) (Nat.le_of_ble_eq_true rfl) (fun i v h => by have h2 := (get_slotsOf _ 0 i v h).2; simpa only [List.getElem?_toArray, Nat.sub_zero] using h2)
  rw [Try.ntmps41]
  revert hF; generalize (⟨(#[.func (.yield l) #[] #[], .pointer (some ⟨bb, 0, none⟩)] : Array Value) ++ Array.replicate (14 - (#[.func (.yield l) #[] #[], .pointer (some ⟨bb, 0, none⟩)] : Array Value).size) undef, []⟩ : Act) = a; intro hF
  have hH := it_start hLI hX h1 h2 777
  have hno0 : ¬ LetsOut (bodyPost Try.prog Try.f41 (fun e w' => ∃ v X' xs, e = .returned v ∧ xs.Perm (m.map (·.1)) ∧ (JP xs X' ∨ ∃ pre, pre <+: xs ∧ DN pre X') ∧ Grew (OwnL [(1, .ro (.blk bb (.cells #[.map (some bm)] 60 (0, 0)))), (2, .ro (.map KB NV bm m noB))]) (fun _ => False) X w0 w' X')) := by rintro ⟨_, _, v, X', xs, h, _⟩; cases h
  refine wp_seq_k fun khK1 hK1 => ?_
  refine wp_region_lit ?_
  refine l_at hF rfl rfl rfl (x_load1 ty60 (hF.tmp 1 rfl) (blk_cell (hH.atro 1 rfl) 0 rfl)) ?_; clear hF; intro a hF
  refine wpList_plain rfl fun K hK => ?_
  refine w_range 5 2 hF hH rfl rfl Try.underlying60 (hF.tmp 4 rfl) ?_
  clear hF hH; intro a w it5 hF hH
  refine hK _ _ ?_; clear hK K
  refine wpList_nil ?_
  refine hK1 _ _ ?_
  refine wp_block ?_
  refine wp_loop_ghost (fun n_ a w => ∃ rest : List (Int × Nat), ∃ pre : List Int, ∃ X_ : Asn, ∃ cur_ : Option ((Int × Nat) × Value), n_ = 0 + rest.length ∧ (JP pre X_) ∧ ((pre ++ rest.map (·.1)).Perm (m.map (·.1))) ∧ (∀ k, X_.rd k → X.own k ∨ X.rd k ∨ (fun _ => False : Nat → Prop) k ∨ w0.heap.size ≤ k) ∧ Fr 14 a [(0, .func (.yield l) #[] #[]), (5, .pointer (some ⟨it5, 0, none⟩))] ∧ Hp (fun k => X.own k ∨ OwnL [(1, .ro (.blk bb (.cells #[.map (some bm)] 60 (0, 0)))), (2, .ro (.map KB NV bm m noB))] k) w0 w [(777, X_), (1, .ro (.blk bb (.cells #[.map (some bm)] 60 (0, 0)))), (2, .ro (.map KB NV bm m noB)), (5, .iter KB NV bm it5 m rest cur_ (fun k => noB k ∧ k ≠ bm))]) (0 + m.length) ?_ ?_
  · exact ⟨m, [], X, none, rfl, hJ0, List.Perm.refl _, fun k h => .inr (.inl h), ((hF.bare.add hF 5 rfl).add hF 0 rfl), hH.sub _ (sub_cons (sub_cons (sub_cons (sub_cons (sub_nil _) 5 rfl) 2 rfl) 1 rfl) 777 rfl)⟩
  · rintro _ a w ⟨rest, pre, X_, cur_, rfl, hq0_0, hq0_1, hq0_2, hF, hH⟩
    refine wp_seq_k fun khK2 hK2 => ?_
    refine wp_region_lit ?_
    refine wpList_plain rfl fun K hK => ?_
    refine w_next 5 hF hH rfl rfl (hF.tmp 5 rfl) (fun a hr0 hF hH => hK _ _ ?_) (fun a w r1 p6 r2 v6 hr1 hF hH => hK _ _ ?_) <;> clear hK K
    ·
      refine l_at hF rfl rfl rfl (x_extract (hF.tmp 6 rfl) rfl) ?_; clear hF; intro a hF
      refine wpList_nil ?_
      refine hK2 _ _ ?_
      refine wp_seq_k fun khK3 hK3 => ?_
      refine wp_cond_false (hF.tmp 7 rfl) ?_
      refine wp_exit ?_
      try simp only [Exit.then, Exit.inBlock]
      try simp only [if_true]
      rw [hr0, List.map_nil, List.append_nil] at hq0_1
      exact fin_end hF (res0 rfl) ⟨_, X_, pre, rfl, hq0_1, .inl hq0_0, (grew_it hH 777 rfl (own_cons (fun k hk => hk.elim) (own_cons (fun k hk => hk.elim) own_nil)) hq0_2)⟩
    ·
      obtain rfl : v6 = ptrV p6.2 := hH.curR 5 rfl
      refine l_at hF rfl rfl rfl (x_extract (hF.tmp 6 rfl) rfl) ?_; clear hF; intro a hF
      refine wpList_nil ?_
      refine hK2 _ _ ?_
      refine wp_seq_k fun khK4 hK4 => ?_
      refine wp_cond_true (hF.tmp 7 rfl) ?_
      refine wp_skip ?_
      refine hK4 _ _ ?_
      refine wp_block ?_
      refine wp_seq_k fun khK5 hK5 => ?_
      refine wp_region_lit ?_
      refine l_at hF rfl rfl rfl (x_entry 5 hH rfl (hF.tmp 5 rfl)) ?_; clear hF; intro a hF
      refine l_at hF rfl rfl rfl (x_extract (hF.tmp 8 rfl) rfl) ?_; clear hF; intro a hF
      refine l_at hF rfl rfl rfl (x_assign (hF.tmp 9 rfl)) ?_; clear hF; intro a hF
      refine wpList_nil ?_
      refine hK5 _ _ ?_
      refine wp_seq_k fun khK6 hK6 => ?_
      refine region_of_in ?_
      refine li_at hF rfl rfl rfl (noDefer_ne rfl) (x_move (hF.tmp 0 rfl)) ?_; clear hF; intro a hF
      refine li_at hF rfl rfl rfl (noDefer_ne rfl) (x_move (hF.tmp 3 rfl)) ?_; clear hF; intro a hF
      have hround := hR0 pre p6.1 X_ w #[.int .u8 p6.1] (fun _ => False) ⟨(pre ++ [p6.1]) ++ (r1 ++ r2).map (·.1), (keysB_step hr1 hq0_1), ⟨_, rfl⟩⟩ hq0_0 (it_ok hH 777 rfl) ⟨rfl, fun _ h => h⟩ (fun k hk => hk.elim)
      refine li_yield hF rfl (hF.tmp 10 rfl) (vs := #[.int .u8 p6.1]) (by simp only [List.map_toArray, List.map_cons, List.map_nil, hF.tmp 11 rfl] <;> rfl) hround ?_; clear hF; intro a w b_ X2 hF hR hG
      have hr2 : ∀ k, X2.rd k → X.own k ∨ X.rd k ∨ (fun _ => False : Nat → Prop) k ∨ w0.heap.size ≤ k := by
        intro k hk; rcases hG.rd k hk with h1 | h1 | h1 | h1
        · exact (it_own hH 777 rfl (own_cons (fun k hk => hk.elim) (own_cons (fun k hk => hk.elim) own_nil)) k h1).imp id (fun h => .inr (.inr h))
        · exact hq0_2 k h1
        · exact h1.elim
        · exact .inr (.inr (.inr (Nat.le_trans hH.mods.size h1)))
      have hH := hH.grew 777 rfl hG (fun k hk => hk.elim)
      cases b_
      ·
        replace hR : DN (pre ++ [p6.1]) X2 := hR
        refine li_rest (by repeat (first | exact hno0 | apply no_then | apply no_block)) rfl ?_
        refine l_at hF rfl rfl rfl (x_not (hF.tmp 12 rfl)) ?_; clear hF; intro a hF
        refine wpList_nil ?_
        refine hK6 _ _ ?_
        refine wp_cond_true (hF.tmp 13 rfl) ?_
        refine wp_ret ?_
        try simp only [Exit.then, Exit.inBlock]
        exact fin_ret hF (res0 rfl) ⟨_, X2, (pre ++ [p6.1]) ++ (r1 ++ r2).map (·.1), rfl, (keysB_step hr1 hq0_1), .inr ⟨pre ++ [p6.1], ⟨_, rfl⟩, hR⟩, (grew_it hH 777 rfl (own_cons (fun k hk => hk.elim) (own_cons (fun k hk => hk.elim) own_nil)) hr2)⟩
      ·
        replace hR : JP (pre ++ [p6.1]) X2 := hR
        refine li_rest (by repeat (first | exact hno0 | apply no_then | apply no_block)) rfl ?_
        refine l_at hF rfl rfl rfl (x_not (hF.tmp 12 rfl)) ?_; clear hF; intro a hF
        refine wpList_nil ?_
        refine hK6 _ _ ?_
        refine wp_cond_false (hF.tmp 13 rfl) ?_
        refine wp_skip ?_
        exact ⟨_, (by rw [hr1]; simp only [List.length_append, List.length_cons]; omega), ⟨r1 ++ r2, pre ++ [p6.1], X2, _, rfl, hR, (keysB_step hr1 hq0_1), hr2, ((hF.bare.add hF 5 rfl).add hF 0 rfl), hH.sub _ (sub_cons (sub_cons (sub_cons (sub_cons (sub_nil _) 5 rfl) 2 rfl) 1 rfl) 777 rfl)⟩⟩

set_option maxRecDepth 100000 in
set_option maxHeartbeats 1000000 in
theorem keys_calls (w0 : World) (bm : Nat) : Calls Try.prog 37 #[.map (some bm)] w0 fun e w' => ∃ b1, e = .returned (.func (.func 41) #[] #[.pointer (some ⟨b1, 0, none⟩)]) ∧ Mods (fun _ => False) w0 w' ∧ w0.heap.size ≤ b1 ∧ w'.heap[b1]? = some (.cells #[.map (some bm)] 60 (0, 0)) := by
  refine calls_of_wp Try.func37 rfl ?_
  have hF := Fr.enter #[.map (some bm)] 4 (slotsOf [.map (some bm)] 0) (Nat.le_of_ble_eq_true rfl) (fun i v h => by have h2 := (get_slotsOf _ 0 i v h).2; simpa only [List.getElem?_toArray, Nat.sub_zero] using h2)
  have hH := Hp.nil (fun _ => False) w0
  rw [Try.ntmps37]
  revert hF; generalize (⟨(#[.map (some bm)] : Array Value) ++ Array.replicate (4 - (#[.map (some bm)] : Array Value).size) undef, []⟩ : Act) = a; intro hF
  refine wp_seq_k fun khK1 hK1 => ?_
  refine wp_region_lit ?_
  refine wpList_plain rfl fun K hK => ?_
  refine w_box 1 hF hH rfl (hF.tmp 0 rfl) ?_
  clear hF hH; intro a w b1 hF hH
  refine hK _ _ ?_; clear hK K
  refine l_at hF rfl rfl rfl (x_assign rfl) ?_; clear hF; intro a hF
  refine wpList_nil ?_
  refine hK1 _ _ ?_
  refine wp_seq_k fun khK2 hK2 => ?_
  refine wp_region_lit ?_
  refine l_at hF rfl rfl rfl (x_mkfunc (vs := #[.pointer (some ⟨b1, 0, none⟩)]) (by simp only [List.map_toArray, List.map_cons, List.map_nil, hF.tmp 1 rfl])) ?_; clear hF; intro a hF
  refine l_at hF rfl rfl rfl (x_assign (hF.tmp 3 rfl)) ?_; clear hF; intro a hF
  refine wpList_nil ?_
  refine hK2 _ _ ?_
  refine wp_ret ?_
  try simp only [Exit.then, Exit.inBlock]
  exact fin_ret hF (res1 hF rfl rfl) ⟨b1, rfl, hH.mods, (hH.mine 1 _ rfl b1 rfl).resolve_left (fun h => h), hH.at 1 rfl⟩

set_option maxRecDepth 100000 in
set_option maxHeartbeats 1000000 in
theorem appseq_calls (w0 : World) {bb bm : Nat} {m : List (Int × Nat)} (hLI : Hp (fun _ => False) w0 w0 [(1, .ro (.blk bb (.cells #[.map (some bm)] 60 (0, 0)))), (2, .ro (.map KB NV bm m noB))]) (hmm : m.length ≤ 900) : Calls Try.prog 42 #[.slice none 0 0, .func (.func 41) #[] #[.pointer (some ⟨bb, 0, none⟩)]] w0 fun e w' => ∃ v xs, e = .returned v ∧ xs.Perm (m.map (·.1)) ∧ Mods (fun _ => False) w0 w' ∧ RowOut RB 5 w0 w' v xs := by
  refine calls_marks Try.func42 rfl ?_
  have hF := Fr.enter #[.slice none 0 0, .func (.func 41) #[] #[.pointer (some ⟨bb, 0, none⟩)]] 13 (slotsOf [.slice none 0 0, .func (.func 41) #[] #[.pointer (some ⟨bb, 0, none⟩)]] 0) (Nat.le_of_ble_eq_true rfl) (fun i v h => by have h2 := (get_slotsOf _ 0 i v h).2; simpa only [List.getElem?_toArray, Nat.sub_zero] using h2)
  rw [Try.ntmps42]
  revert hF; generalize (⟨(#[.slice none 0 0, .func (.func 41) #[] #[.pointer (some ⟨bb, 0, none⟩)]] : Array Value) ++ Array.replicate (13 - (#[.slice none 0 0, .func (.func 41) #[] #[.pointer (some ⟨bb, 0, none⟩)]] : Array Value).size) undef, []⟩ : Act) = a; intro hF
  have hH := hLI
  refine wp_seq_k fun khK1 hK1 => ?_
  refine wp_region_lit ?_
  refine wpList_plain rfl fun K hK => ?_
  refine w_box 22 hF hH rfl (hF.tmp 0 rfl) ?_
  clear hF hH; intro a w b2 hF hH
  refine hK _ _ ?_; clear hK K
  refine l_at hF rfl rfl rfl (x_assign rfl) ?_; clear hF; intro a hF
  refine wpList_nil ?_
  refine hK1 _ _ ?_
  refine wp_seq_k fun khK2 hK2 => ?_
  refine wp_seq_k fun khK3 hK3 => ?_
  refine wp_region_lit ?_
  refine l_at hF rfl rfl rfl (x_move (hF.tmp 1 rfl)) ?_; clear hF; intro a hF
  refine wpList_nil ?_
  refine hK3 _ _ ?_
  refine wp_block ?_
  have hH := hH.row0 55 RB 5
  refine wp_range hF hH 100 101 (hF.tmp 6 rfl) Try.func41 (by kernel_rfl) rfl ?_
  intro r l bk w hr hH0; clear hH
  have hLI2 : (Asn.all [(1, .ro (.blk bb (.cells #[.map (some bm)] 60 (0, 0)))), (2, .ro (.map KB NV bm m noB))]).holds w := (hH0.sub _ (sub_cons (sub_cons (sub_nil _) 2 rfl) 1 rfl)).asAll
  have hFD := hF.defer [{ target := .collected bk, args := #[] }]
  refine Calls.mono (keys1_tells w hLI2 l (fun (pre : List Int) (X : Asn) => ∃ (Av : Option Addr) (cv : Nat), X = Asn.all [(100, .blk l (.loop r)), (22, .blk b2 (.cells #[.slice Av pre.length cv] 72 (0, 0))), (55, .row RB 5 (.slice Av pre.length cv) pre (fun _ => False))]) (fun _ _ => False) (Asn.all [(100, .blk l (.loop r)), (22, .blk b2 (.cells #[.slice none ([] : List Int).length 0] 72 (0, 0))), (55, .row RB 5 (.slice none ([] : List Int).length 0) ([] : List Int) (fun _ => False))]) (hH0.sub _ (sub_cons (sub_cons (sub_cons (sub_nil _) 55 rfl) 22 rfl) 100 rfl)).okAll (hH0.apart (sub_cons (sub_cons (sub_nil _) 2 rfl) 1 rfl) (sub_cons (sub_cons (sub_cons (sub_nil _) 55 rfl) 22 rfl) 100 rfl) (apart_cons rfl (apart_cons rfl (apart_nil _)))) (fun k hk h => hH0.apart (sub_cons (sub_cons (sub_cons (sub_nil _) 55 rfl) 22 rfl) 100 rfl) (sub_cons (sub_cons (sub_nil _) 2 rfl) 1 rfl) (apart_cons rfl (apart_cons rfl (apart_cons rfl (apart_nil _)))) k h (.inr hk)) ?_ ⟨none, 0, rfl⟩) ?_
  ·
    rintro pre x Xx w1 args rdY ⟨xs, hxs, hpre⟩ ⟨Av, cv, rfl⟩ hXok ⟨rfl, hrdY⟩ _
    have hlen : pre.length < 1000 := by have h1 := hpre.length_le; have h2 : xs.length = (m.map (·.1)).length := List.Perm.length_eq hxs; rw [List.length_map] at h2; simp only [List.length_append, List.length_cons, List.length_nil] at h1; omega
    refine round_walk (ll := 100) hXok.holds rfl hr ?_
    have hH := Hp.ofAll hXok.holds
    have hF := hF.round 7 (.int .u8 x) rfl
    generalize ({ tmps := _, defers := [] } : Act) = a at hF ⊢
    have hF : Fr 13 a [(7, .int .u8 x), (2, .pointer (some ⟨b2, 0, none⟩))] := ((hF.bare.add hF 2 rfl).add hF 7 rfl)
    refine region_in (by repeat (first | exact no_round | exact no_false | apply no_then | apply no_block)) rfl ?_
    refine l_at hF rfl rfl rfl (x_assign (hF.tmp 7 rfl)) ?_; clear hF; intro a hF
    refine wpList_nil ?_
    try simp only [Exit.then, Exit.inBlock]
    refine begin_round hH 100 rfl hr.state fun w hH => ?_
    refine wpIn_block ?_
    refine region_in (by repeat (first | exact no_round | exact no_false | apply no_then | apply no_block)) rfl ?_
    refine l_at hF rfl rfl rfl (x_load1 ty72 (hF.tmp 2 rfl) (blk_cell (hH.at 22 rfl) 0 rfl)) ?_; clear hF; intro a hF
    refine l_at hF rfl rfl rfl (x_move (hF.tmp 5 rfl)) ?_; clear hF; intro a hF
    refine wpList_plain rfl fun K hK => ?_
    refine w_lit 10 (enc := Value.int .u8) (h1 := fun _ => rfl) ([x]) hF hH rfl Try.underlying72 ty5 (by simp only [List.map_toArray, List.map_cons, List.map_nil, hF.tmp 9 rfl]; rfl) rfl (by decide) (by decide) (by kernel_rfl) ?_
    clear hF hH; intro a w b10 hF hH
    refine hK _ _ ?_; clear hK K
    refine wpList_plain rfl fun K hK => ?_
    refine w_append 55 10 (xs := pre) (ys := ([x])) hF hH rfl Try.underlying72 ty5 rfl rfl rfl rfl (Row.rd (ok' := fun k_ => (fun _ => False) k_ ∨ (.slice (some ⟨b10, 0, none⟩) ([x]).length ([x]).length : Value).ownBlock = some k_) (hH.row 10 rfl) (fun _ hk_ _ => .inl hk_) (fun _ hk_ => .inr hk_)) (by rintro k_ (hk_ | hk_); exact .inr hk_; exact .inl hk_) (hF.tmp 8 rfl) (hF.tmp 10 rfl) (by simp only [List.length_cons, List.length_nil]; omega) (by simp only [List.length_cons, List.length_nil, maxLen]; omega) (fun _ => False) (fun w' v' h => row_flat h _) (fun k_ hk_ => hk_.elim) ?_
    clear hF hH; intro a w v11 hF hH
    refine hK _ _ ?_; clear hK K
    obtain ⟨A11, c11, rfl⟩ := (hH.row 55 rfl).form
    refine wpList_plain rfl fun K hK => ?_
    refine w_store 22 hH ty72 rfl (hF.tmp 2 rfl) (hF.tmp 11 rfl) rfl (one1 rfl rfl) (by first | decide | exact Nat.le_of_ble_eq_true rfl) ?_
    clear hH; intro w hH
    refine hK _ _ ?_; clear hK K
    refine wpList_nil ?_
    try simp only [Exit.then, Exit.inBlock]
    refine end_next hH 100 rfl hr fun w hH => ?_
    have hh := hH.sub [(100, .blk l (.loop r)), (22, .blk b2 (.cells #[.slice A11 (pre ++ [x]).length c11] 72 (0, 0))), (55, .row RB 5 (.slice A11 (pre ++ [x]).length c11) (pre ++ [x]) (fun _ => False))] (sub_cons (sub_cons (sub_cons (sub_nil _) 55 rfl) 22 rfl) 100 rfl)
    exact ⟨true, _, rfl, ⟨_, _, rfl⟩, grew_of hh (rdin_cons (fun k h => h.elim) (rdin_cons (fun k h => h.elim) (rdin_cons (fun k h => h.elim) rdin_nil)))⟩
  ·
    rintro e w' ⟨v_, X', xs, rfl, hxs, hor, hG⟩
    obtain ⟨Av, cv, rfl⟩ := hor.resolve_right (fun ⟨_, _, h⟩ => h)
    have hH := Hp.back hH0 (sub_cons (sub_cons (sub_cons (sub_nil _) 55 rfl) 22 rfl) 100 rfl) (sub_cons (sub_cons (sub_nil _) 2 rfl) 1 rfl) hG (fun k h => h.elim) [(1, .emp), (2, .emp)] (cover_cons rfl (cover_cons rfl (cover_nil _))) (emps_cons (emps_cons emps_nil)) (cover_cons rfl (cover_cons rfl (cover_cons rfl (cover_nil _)))) (apart_cons rfl (apart_cons rfl (apart_nil _)))
    have hH : Hp _ w0 w' [(101, .blk bk (.deferred (some []))), (100, .blk l (.loop r)), (22, .blk b2 (.cells #[.slice Av xs.length cv] 72 (0, 0))), (55, .row RB 5 (.slice Av xs.length cv) xs (fun _ => False))] := hH.sub _ (sub_cons (sub_cons (sub_cons (sub_cons (sub_nil _) 55 rfl) 22 rfl) 100 rfl) 101 rfl)
    refine range_next hH 100 rfl (by rw [hr.state]; decide) hr.pending fun w hH => ?_
    clear hF; have hF := hFD; revert hF; generalize ({ tmps := a.tmps, defers := [{ target := .collected bk, args := #[] }] } : Act) = a; intro hF
    try simp only [Exit.then, Exit.inBlock]
    refine hK2 _ _ ?_
    refine wp_seq_k fun khK4 hK4 => ?_
    refine wp_region_lit ?_
    refine l_at hF rfl rfl rfl (x_load1 ty72 (hF.tmp 2 rfl) (blk_cell (hH.at 22 rfl) 0 rfl)) ?_; clear hF; intro a hF
    refine l_at hF rfl rfl rfl (x_assign (hF.tmp 12 rfl)) ?_; clear hF; intro a hF
    refine wpList_nil ?_
    refine hK4 _ _ ?_
    refine wp_ret ?_
    try simp only [Exit.then, Exit.inBlock]
    exact fin_retD hF hH 101 rfl fun w hH => ⟨res1 hF rfl rfl, _, xs, rfl, hxs, hH.mods, Hp.out hH 55 rfl⟩

set_option maxRecDepth 100000 in
set_option maxHeartbeats 1000000 in
theorem collect_calls (w0 : World) {bb bm : Nat} {m : List (Int × Nat)} (hLI : Hp (fun _ => False) w0 w0 [(1, .ro (.blk bb (.cells #[.map (some bm)] 60 (0, 0)))), (2, .ro (.map KB NV bm m noB))]) (hmm : m.length ≤ 900) : Calls Try.prog 39 #[.func (.func 41) #[] #[.pointer (some ⟨bb, 0, none⟩)]] w0 fun e w' => ∃ v xs, e = .returned v ∧ xs.Perm (m.map (·.1)) ∧ Mods (fun _ => False) w0 w' ∧ RowOut RB 5 w0 w' v xs := by
  refine calls_of_wp Try.func39 rfl ?_
  have hF := Fr.enter #[.func (.func 41) #[] #[.pointer (some ⟨bb, 0, none⟩)]] 5 (slotsOf [.func (.func 41) #[] #[.pointer (some ⟨bb, 0, none⟩)]] 0) (Nat.le_of_ble_eq_true rfl) (fun i v h => by have h2 := (get_slotsOf _ 0 i v h).2; simpa only [List.getElem?_toArray, Nat.sub_zero] using h2)
  rw [Try.ntmps39]
  revert hF; generalize (⟨(#[.func (.func 41) #[] #[.pointer (some ⟨bb, 0, none⟩)]] : Array Value) ++ Array.replicate (5 - (#[.func (.func 41) #[] #[.pointer (some ⟨bb, 0, none⟩)]] : Array Value).size) undef, []⟩ : Act) = a; intro hF
  have hH := hLI
  refine wp_seq_k fun khK1 hK1 => ?_
  refine wp_region_lit ?_
  refine l_at hF rfl rfl rfl (x_assign rfl) ?_; clear hF; intro a hF
  refine wpList_nil ?_
  refine hK1 _ _ ?_
  refine wp_seq_k fun khK2 hK2 => ?_
  refine wp_region_lit ?_
  refine l_at hF rfl rfl rfl (x_move (hF.tmp 0 rfl)) ?_; clear hF; intro a hF
  refine wpList_plain rfl fun K hK => ?_
  refine w_call hF (x_enter Try.func42 (by kernel_rfl) rfl (by simp only [List.map_toArray, List.map_cons, List.map_nil, hF.tmp 3 rfl] <;> rfl)) (appseq_calls _ ((hH.sub [(1, .ro (.blk bb (.cells #[.map (some bm)] 60 (0, 0)))), (2, .ro (.map KB NV bm m noB))] (sub_cons (sub_cons (sub_nil _) 2 rfl) 1 rfl)).still (own_cons (fun k h => h.elim) (own_cons (fun k h => h.elim) own_nil))) hmm) rfl rfl ?_
  rintro _ w ⟨v4, xs, rfl, hxs, hm_, hr_⟩; refine ⟨_, rfl, ?_⟩; clear hF; intro a hF; have hH := Hp.rowOut hH 4 hm_ hr_
  refine hK _ _ ?_; clear hK K
  refine l_at hF rfl rfl rfl (x_assign (hF.tmp 4 rfl)) ?_; clear hF; intro a hF
  refine wpList_nil ?_
  refine hK2 _ _ ?_
  refine wp_ret ?_
  try simp only [Exit.then, Exit.inBlock]
  exact fin_ret hF (res1 hF rfl rfl) ⟨v4, xs, rfl, hxs, hH.mods, Hp.out hH 4 rfl⟩

set_option maxRecDepth 100000 in
set_option maxHeartbeats 1000000 in
theorem sorted_calls (w0 : World) {bb bm : Nat} {m : List (Int × Nat)} (hLI : Hp (fun _ => False) w0 w0 [(1, .ro (.blk bb (.cells #[.map (some bm)] 60 (0, 0)))), (2, .ro (.map KB NV bm m noB))]) (hmm : m.length ≤ kmax) : Calls Try.prog 36 #[.func (.func 41) #[] #[.pointer (some ⟨bb, 0, none⟩)]] w0 fun e w' => ∃ v, e = .returned v ∧ Mods (fun _ => False) w0 w' ∧ RowOut RB 5 w0 w' v (sortB (m.map (·.1))) := by
  refine calls_of_wp Try.func36 rfl ?_
  have hF := Fr.enter #[.func (.func 41) #[] #[.pointer (some ⟨bb, 0, none⟩)]] 9 (slotsOf [.func (.func 41) #[] #[.pointer (some ⟨bb, 0, none⟩)]] 0) (Nat.le_of_ble_eq_true rfl) (fun i v h => by have h2 := (get_slotsOf _ 0 i v h).2; simpa only [List.getElem?_toArray, Nat.sub_zero] using h2)
  rw [Try.ntmps36]
  revert hF; generalize (⟨(#[.func (.func 41) #[] #[.pointer (some ⟨bb, 0, none⟩)]] : Array Value) ++ Array.replicate (9 - (#[.func (.func 41) #[] #[.pointer (some ⟨bb, 0, none⟩)]] : Array Value).size) undef, []⟩ : Act) = a; intro hF
  have hH := hLI
  refine wp_seq_k fun khK1 hK1 => ?_
  refine wp_region_lit ?_
  refine l_at hF rfl rfl rfl (x_assign rfl) ?_; clear hF; intro a hF
  refine wpList_nil ?_
  refine hK1 _ _ ?_
  refine wp_seq_k fun khK2 hK2 => ?_
  refine wp_region_lit ?_
  refine l_at hF rfl rfl rfl (x_move (hF.tmp 0 rfl)) ?_; clear hF; intro a hF
  refine wpList_plain rfl fun K hK => ?_
  refine w_call hF (x_enter Try.func39 (by kernel_rfl) rfl (by simp only [List.map_toArray, List.map_cons, List.map_nil, hF.tmp 4 rfl] <;> rfl)) (collect_calls _ ((hH.sub [(1, .ro (.blk bb (.cells #[.map (some bm)] 60 (0, 0)))), (2, .ro (.map KB NV bm m noB))] (sub_cons (sub_cons (sub_nil _) 2 rfl) 1 rfl)).still (own_cons (fun k h => h.elim) (own_cons (fun k h => h.elim) own_nil))) (by unfold kmax at hmm; omega)) rfl rfl ?_
  rintro _ w ⟨v5, xs, rfl, hxs, hm_, hr_⟩; refine ⟨_, rfl, ?_⟩; clear hF; intro a hF; have hH := Hp.rowOut hH 5 hm_ hr_
  refine hK _ _ ?_; clear hK K
  refine l_at hF rfl rfl rfl (x_assign (hF.tmp 5 rfl)) ?_; clear hF; intro a hF
  refine wpList_nil ?_
  refine hK2 _ _ ?_
  refine wp_seq_k fun khK3 hK3 => ?_
  refine wp_region_lit ?_
  refine l_at hF rfl rfl rfl (x_move (hF.tmp 3 rfl)) ?_; clear hF; intro a hF
  refine wpList_plain rfl fun K hK => ?_
  refine w_call hF (x_enter Try.func40 (by kernel_rfl) rfl (by simp only [List.map_toArray, List.map_cons, List.map_nil, hF.tmp 6 rfl] <;> rfl)) (sort_calls _ (d := xs.toArray) (hH.row 5 rfl) (by have h2 := hxs.length_eq; rw [List.length_map] at h2; simp only [List.size_toArray]; omega)) rfl rfl ?_
  rintro _ w ⟨rfl, hm_, hr_⟩; refine ⟨_, rfl, ?_⟩; clear hF; intro a hF; have hH := hH.rowTurn 5 rfl hm_ hr_
  refine hK _ _ ?_; clear hK K
  refine wpList_nil ?_
  refine hK3 _ _ ?_
  refine wp_seq_k fun khK4 hK4 => ?_
  refine wp_region_lit ?_
  refine l_at hF rfl rfl rfl (x_move (hF.tmp 3 rfl)) ?_; clear hF; intro a hF
  refine l_at hF rfl rfl rfl (x_assign (hF.tmp 8 rfl)) ?_; clear hF; intro a hF
  refine wpList_nil ?_
  refine hK4 _ _ ?_
  refine wp_ret ?_
  try simp only [Exit.then, Exit.inBlock]
  exact fin_ret hF (res1 hF rfl rfl) ⟨_, rfl, hH.mods, by rw [← sortB_of_perm hxs]; exact Hp.out hH 5 rfl⟩

end Go.Proofs.Ytlcnoibjhmflnaa.Act
