/- The great sort's small parts. -/
import Derived.Test.YtlcnoibjhmflnaaSrz
import Derived.Test.YtlcnoibjhmflnaaTriP
set_option linter.unusedVariables false
set_option linter.unusedSimpArgs false
namespace Go.Proofs.Ytlcnoibjhmflnaa.Act
open Go.RowKit Go.Proofs.Ytlcnoibjhmflnaa.Sx Go.Sort Go.Proofs.Ytlcnoibjhmflnaa.Cod
theorem ty96 : TyI Try.prog 96 (.int .u64 0) 1 8 false := ⟨by kernel_rfl, _, Try.underlying96, rfl⟩
set_option maxRecDepth 100000 in
set_option maxHeartbeats 1000000 in
theorem inssort_calls (w0 : World) {v : Value} {d : Array Int} (h : Row RB 5 w0 (fun _ => False) v d.toList) {la lb : Nat} (hab : la ≤ lb) (hb : lb ≤ d.size) (hsz : d.size < 1000000000) : Calls Try.prog 45 #[v, .int .i64 (la : Int), .int .i64 (lb : Int)] w0 fun e w' => e = .returned (.tuple #[]) ∧ Mods (fun k => v.ownBlock = some k) w0 w' ∧ Row RB 5 w' (fun _ => False) v (insertionSort ltInt d la lb).toList := by
  refine calls_of_wp Try.func45 rfl ?_
  have hF := Fr.enter #[v, .int .i64 (la : Int), .int .i64 (lb : Int)] 49 (slotsOf [v, .int .i64 (la : Int), .int .i64 (lb : Int)] 0) (Nat.le_of_ble_eq_true rfl) (fun i v h => by have h2 := (get_slotsOf _ 0 i v h).2; simpa only [List.getElem?_toArray, Nat.sub_zero] using h2)
  rw [Try.ntmps45]
  revert hF; generalize (⟨(#[v, .int .i64 (la : Int), .int .i64 (lb : Int)] : Array Value) ++ Array.replicate (49 - (#[v, .int .i64 (la : Int), .int .i64 (lb : Int)] : Array Value).size) undef, []⟩ : Act) = a; intro hF
  have hH := Hp.ownrow 900 h (fun _ h => h.elim) (fun _ _ h => h)
  have hdl : d.toList.length = d.size := by simp
  refine wp_seq_k fun khK1 hK1 => ?_
  refine wp_region_lit ?_
  refine l_at hF rfl rfl rfl (x_move (hF.tmp 1 rfl)) ?_; clear hF; intro a hF
  refine l_at hF rfl rfl rfl (x_add (hF.tmp 8 rfl) rfl (show IntKind.i64.wrap _ = ((la + 1 : Nat) : Int) from by rw [w64 (by omega) (by omega)] <;> omega)) ?_; clear hF; intro a hF
  refine l_at hF rfl rfl rfl (x_assign (hF.tmp 9 rfl)) ?_; clear hF; intro a hF
  refine wpList_nil ?_
  refine hK1 _ _ ?_
  refine wp_block ?_
  refine wp_loop_ghost (fun n_ a w => ∃ i : Nat, ∃ dk : Array Int, n_ = lb + 1 - i ∧ (la < i) ∧ (i ≤ lb + 1) ∧ (dk.size = d.size) ∧ (insOuter ltInt la lb i dk = insOuter ltInt la lb (la + 1) d) ∧ Fr 49 a [(0, v), (1, .int .i64 (la : Int)), (2, .int .i64 (lb : Int)), (6, .int .i64 (i : Int))] ∧ Hp (fun k => v.ownBlock = some k) w0 w [(900, .row RB 5 v dk.toList (fun _ => False))]) (lb + 1 - (la + 1)) ?_ ?_
  · exact ⟨la + 1, d, rfl, by omega, by omega, rfl, rfl, ((((hF.bare.add hF 6 rfl).add hF 2 rfl).add hF 1 rfl).add hF 0 rfl), hH.sub _ (sub_cons (sub_nil _) 900 rfl)⟩
  · rintro _ a w ⟨i, dk, rfl, hq0_0, hq0_1, hq0_2, hq0_3, hF, hH⟩
    have hl_dk : dk.toList.length = d.size := by simp only [Array.length_toList]; omega
    refine wp_seq_k fun khK2 hK2 => ?_
    refine wp_seq_k fun khK3 hK3 => ?_
    refine wp_region_lit ?_
    refine l_at hF rfl rfl rfl (x_move (hF.tmp 6 rfl)) ?_; clear hF; intro a hF
    refine l_at hF rfl rfl rfl (x_move (hF.tmp 2 rfl)) ?_; clear hF; intro a hF
    refine l_at hF rfl rfl rfl (x_lss (hF.tmp 10 rfl) (hF.tmp 11 rfl)) ?_; clear hF; intro a hF
    refine wpList_nil ?_
    refine hK3 _ _ ?_
    refine wp_cond_split (hF.tmp 12 rfl) (fun hc12 => ?_) (fun hc12 => ?_)
    · have hk12_1 := hc12; try simp only [Bool.or_eq_true, Bool.and_eq_true, Bool.or_eq_false_iff, Bool.and_eq_false_iff, Bool.not_eq_true', Bool.not_eq_false', decide_eq_true_eq, decide_eq_false_iff_not, Bool.not_true, Bool.not_false] at hc12
      refine wp_skip ?_
      refine hK2 _ _ ?_
      refine wp_seq_k fun khK4 hK4 => ?_
      refine wp_block ?_
      refine wp_seq_k fun khK5 hK5 => ?_
      refine wp_region_lit ?_
      refine l_at hF rfl rfl rfl (x_move (hF.tmp 6 rfl)) ?_; clear hF; intro a hF
      refine l_at hF rfl rfl rfl (x_assign (hF.tmp 15 rfl)) ?_; clear hF; intro a hF
      refine wpList_nil ?_
      refine hK5 _ _ ?_
      refine wp_block ?_
      refine wp_loop_ghost (fun n_ a w => ∃ j : Nat, ∃ dj : Array Int, n_ = 0 + j ∧ (la ≤ j) ∧ (j ≤ i) ∧ (dj.size = d.size) ∧ (insInner ltInt la j dj = insInner ltInt la i dk) ∧ Fr 49 a [(0, v), (1, .int .i64 (la : Int)), (2, .int .i64 (lb : Int)), (6, .int .i64 (i : Int)), (7, .int .i64 (j : Int))] ∧ Hp (fun k => v.ownBlock = some k) w0 w [(900, .row RB 5 v dj.toList (fun _ => False))]) (0 + i) ?_ ?_
      · exact ⟨i, dk, rfl, by omega, Nat.le_refl _, hq0_2, rfl, (((((hF.bare.add hF 7 rfl).add hF 6 rfl).add hF 2 rfl).add hF 1 rfl).add hF 0 rfl), hH.sub _ (sub_cons (sub_nil _) 900 rfl)⟩
      · rintro _ a w ⟨j, dj, rfl, hq2_0, hq2_1, hq2_2, hq2_3, hF, hH⟩
        have hl_dj : dj.toList.length = d.size := by simp only [Array.length_toList]; omega
        refine wp_seq_k fun khK6 hK6 => ?_
        refine wp_seq_k fun khK7 hK7 => ?_
        refine r_start [(900, .row RB 5 v dj.toList (fun _ => False))] (by kernel_rfl) hH fun hH => ?_
        have hS : SL [(900, .row RB 5 v dj.toList (fun _ => False))] _ := SL.of hH (sub_cons (sub_nil _) 900 rfl)
        refine r_take 0 hF rfl rfl rfl (by kernel_rfl) (by kernel_rfl) (by kernel_rfl) (fun _ _ _ h => h) rfl hS (fun w hS => x_move (hF.tmp 7 rfl)) rfl ?_; clear hF; intro a hF
        refine r_take 1 hF rfl rfl rfl (by kernel_rfl) (by kernel_rfl) (by kernel_rfl) (fun _ _ _ h => h) rfl hS (fun w hS => x_move (hF.tmp 1 rfl)) rfl ?_; clear hF; intro a hF
        refine r_take 2 hF rfl rfl rfl (by kernel_rfl) (by kernel_rfl) (by kernel_rfl) (fun _ _ _ h => h) rfl hS (fun w hS => x_gtr (hF.tmp 16 rfl) (hF.tmp 17 rfl)) rfl ?_; clear hF; intro a hF
        refine r_take 3 hF rfl rfl rfl (by kernel_rfl) (by kernel_rfl) (by kernel_rfl) (fun _ _ _ h => h) rfl hS (fun w hS => x_move (hF.tmp 18 rfl)) rfl ?_; clear hF; intro a hF
        refine split_bool hF 19 rfl (fun hb19 => ?_) (fun hb19 => ?_)
        · have hc19 := hb19; try simp only [Bool.or_eq_true, Bool.and_eq_true, Bool.or_eq_false_iff, Bool.and_eq_false_iff, Bool.not_eq_true', Bool.not_eq_false', decide_eq_true_eq, decide_eq_false_iff_not, Bool.not_true, Bool.not_false] at hc19
          refine r_take 4 hF rfl rfl rfl (by kernel_rfl) (by kernel_rfl) (by kernel_rfl) (fun _ _ _ h => h) ((wanted_of hF rfl rfl rfl rfl).trans (by rw [hb19]; rfl)) hS (fun w hS => x_move (hF.tmp 0 rfl)) rfl ?_; clear hF; intro a hF
          refine r_take 5 hF rfl rfl rfl (by kernel_rfl) (by kernel_rfl) (by kernel_rfl) (fun _ _ _ h => h) ((wanted_of hF rfl rfl rfl rfl).trans (by rw [hb19]; rfl)) hS (fun w hS => x_move (hF.tmp 7 rfl)) rfl ?_; clear hF; intro a hF
          refine r_take 6 hF rfl rfl rfl (by kernel_rfl) (by kernel_rfl) (by kernel_rfl) (fun _ _ _ h => h) ((wanted_of hF rfl rfl rfl rfl).trans (by rw [hb19]; rfl)) hS (fun w hS => x_iaddrV Try.underlying72 ty5 (hH.row 900 rfl) (hF.tmp 20 rfl) (hF.tmp 21 rfl) (by omega) (by omega) _) rfl ?_; clear hF; intro a hF
          refine r_take 7 hF rfl rfl rfl (by kernel_rfl) (by kernel_rfl) (by kernel_rfl) (fun _ _ _ h => h) ((wanted_of hF rfl rfl rfl rfl).trans (by rw [hb19]; rfl)) hS (fun w hS => x_load1 ty5 (hF.tmp 22 rfl) ((Row.rdV (SL.row hS 900 rfl)).cellA (gi_some (xs := dj.toList) (i := (j : Int)) (by omega) (by omega)))) rfl ?_; clear hF; intro a hF
          refine r_take 8 hF rfl rfl rfl (by kernel_rfl) (by kernel_rfl) (by kernel_rfl) (fun _ _ _ h => h) ((wanted_of hF rfl rfl rfl rfl).trans (by rw [hb19]; rfl)) hS (fun w hS => x_move (hF.tmp 0 rfl)) rfl ?_; clear hF; intro a hF
          refine r_take 9 hF rfl rfl rfl (by kernel_rfl) (by kernel_rfl) (by kernel_rfl) (fun _ _ _ h => h) ((wanted_of hF rfl rfl rfl rfl).trans (by rw [hb19]; rfl)) hS (fun w hS => x_move (hF.tmp 7 rfl)) rfl ?_; clear hF; intro a hF
          refine r_take 10 hF rfl rfl rfl (by kernel_rfl) (by kernel_rfl) (by kernel_rfl) (fun _ _ _ h => h) ((wanted_of hF rfl rfl rfl rfl).trans (by rw [hb19]; rfl)) hS (fun w hS => x_sub (hF.tmp 25 rfl) rfl (show IntKind.i64.wrap _ = ((j - 1 : Nat) : Int) from by rw [w64 (by omega) (by omega)] <;> omega)) rfl ?_; clear hF; intro a hF
          refine r_take 11 hF rfl rfl rfl (by kernel_rfl) (by kernel_rfl) (by kernel_rfl) (fun _ _ _ h => h) ((wanted_of hF rfl rfl rfl rfl).trans (by rw [hb19]; rfl)) hS (fun w hS => x_iaddrV Try.underlying72 ty5 (hH.row 900 rfl) (hF.tmp 24 rfl) (hF.tmp 26 rfl) (by omega) (by omega) _) rfl ?_; clear hF; intro a hF
          refine r_take 12 hF rfl rfl rfl (by kernel_rfl) (by kernel_rfl) (by kernel_rfl) (fun _ _ _ h => h) ((wanted_of hF rfl rfl rfl rfl).trans (by rw [hb19]; rfl)) hS (fun w hS => x_load1 ty5 (hF.tmp 27 rfl) ((Row.rdV (SL.row hS 900 rfl)).cellA (gi_some (xs := dj.toList) (i := ((j - 1 : Nat) : Int)) (by omega) (by omega)))) rfl ?_; clear hF; intro a hF
          refine r_do 13 rfl (by kernel_rfl) ((wanted_of hF rfl rfl rfl rfl).trans (by rw [hb19]; rfl)) rfl ?_
          refine w_call hF (x_enter Try.func51 (by kernel_rfl) rfl (by simp only [List.map_toArray, List.map_cons, List.map_nil, hF.tmp 23 rfl, hF.tmp 28 rfl] <;> rfl)) (less_calls _ _ _) rfl rfl ?_
          rintro _ w ⟨rfl, hm_⟩; refine ⟨_, rfl, ?_⟩; clear hF; intro a hF; have hH := hH.same hm_
          clear hS; have hS : SL _ _ := SL.of hH (sub_cons (sub_nil _) 900 rfl); refine ⟨hS, ?_⟩
          refine r_take 14 hF rfl rfl rfl (by kernel_rfl) (by kernel_rfl) (by kernel_rfl) (fun _ _ _ h => h) rfl hS (fun w hS => x_pickT (hF.tmp 19 rfl) hb19 (hF.tmp 29 rfl)) rfl ?_; clear hF; intro a hF
          refine r_end (by kernel_rfl) ?_; clear hS
          refine hK7 _ _ ?_
          refine wp_cond_split (hF.tmp 30 rfl) (fun hc30 => ?_) (fun hc30 => ?_)
          · have hk30_2 := hc30; try simp only [Bool.or_eq_true, Bool.and_eq_true, Bool.or_eq_false_iff, Bool.and_eq_false_iff, Bool.not_eq_true', Bool.not_eq_false', decide_eq_true_eq, decide_eq_false_iff_not, Bool.not_true, Bool.not_false] at hc30
            have hlt : gi dj.toList (j : Int) < gi dj.toList ((j - 1 : Nat) : Int) := hc30
            refine wp_skip ?_
            refine hK6 _ _ ?_
            refine wp_seq_k fun khK8 hK8 => ?_
            refine wp_block ?_
            refine wp_norm_k fun khK9 hK9 => ?_
            have hJr6 : ∀ a w, Fr 49 a [(0, v), (1, .int .i64 (la : Int)), (2, .int .i64 (lb : Int)), (6, .int .i64 (i : Int)), (7, .int .i64 (j : Int))] → Hp (fun k => v.ownBlock = some k) w0 w [(900, .row RB 5 v (swp dj j (j - 1)).toList (fun _ => False))] → khK9 a w := by
              intro a w  hF hH
              refine hK9 a w ?_
              refine hK8 _ _ ?_
              refine wp_region_lit ?_
              refine l_at hF rfl rfl rfl (x_move (hF.tmp 7 rfl)) ?_; clear hF; intro a hF
              refine l_at hF rfl rfl rfl (x_sub (hF.tmp 31 rfl) rfl (show IntKind.i64.wrap _ = ((j - 1 : Nat) : Int) from by rw [w64 (by omega) (by omega)] <;> omega)) ?_; clear hF; intro a hF
              refine l_at hF rfl rfl rfl (x_assign (hF.tmp 32 rfl)) ?_; clear hF; intro a hF
              refine wpList_nil ?_
              exact ⟨_, by omega, ⟨j - 1, (swp dj j (j - 1)), rfl, by omega, by omega, (by rw [swp_size]; exact hq2_2), (by rw [ins_step (by omega) hlt]; exact hq2_3), (((((hF.bare.add hF 7 rfl).add hF 6 rfl).add hF 2 rfl).add hF 1 rfl).add hF 0 rfl), hH.sub _ (sub_cons (sub_nil _) 900 rfl)⟩⟩
            refine r_start [] (by kernel_rfl) hH fun hH => ?_
            have hS : SL [] _ := SL.of hH (sub_nil _)
            refine r_take 0 hF rfl rfl rfl (by kernel_rfl) (by kernel_rfl) (by kernel_rfl) (fun _ _ _ h => h) rfl hS (fun w hS => x_move (hF.tmp 0 rfl)) rfl ?_; clear hF; intro a hF
            refine r_take 1 hF rfl rfl rfl (by kernel_rfl) (by kernel_rfl) (by kernel_rfl) (fun _ _ _ h => h) rfl hS (fun w hS => x_move (hF.tmp 7 rfl)) rfl ?_; clear hF; intro a hF
            refine r_take 2 hF rfl rfl rfl (by kernel_rfl) (by kernel_rfl) (by kernel_rfl) (fun _ _ _ h => h) rfl hS (fun w hS => x_move (hF.tmp 0 rfl)) rfl ?_; clear hF; intro a hF
            refine r_take 3 hF rfl rfl rfl (by kernel_rfl) (by kernel_rfl) (by kernel_rfl) (fun _ _ _ h => h) rfl hS (fun w hS => x_move (hF.tmp 7 rfl)) rfl ?_; clear hF; intro a hF
            refine r_take 4 hF rfl rfl rfl (by kernel_rfl) (by kernel_rfl) (by kernel_rfl) (fun _ _ _ h => h) rfl hS (fun w hS => x_sub (hF.tmp 36 rfl) rfl (show IntKind.i64.wrap _ = ((j - 1 : Nat) : Int) from by rw [w64 (by omega) (by omega)] <;> omega)) rfl ?_; clear hF; intro a hF
            refine r_take 5 hF rfl rfl rfl (by kernel_rfl) (by kernel_rfl) (by kernel_rfl) (fun _ _ _ h => h) rfl hS (fun w hS => x_move (hF.tmp 0 rfl)) rfl ?_; clear hF; intro a hF
            refine r_take 6 hF rfl rfl rfl (by kernel_rfl) (by kernel_rfl) (by kernel_rfl) (fun _ _ _ h => h) rfl hS (fun w hS => x_move (hF.tmp 7 rfl)) rfl ?_; clear hF; intro a hF
            refine r_take 7 hF rfl rfl rfl (by kernel_rfl) (by kernel_rfl) (by kernel_rfl) (fun _ _ _ h => h) rfl hS (fun w hS => x_sub (hF.tmp 39 rfl) rfl (show IntKind.i64.wrap _ = ((j - 1 : Nat) : Int) from by rw [w64 (by omega) (by omega)] <;> omega)) rfl ?_; clear hF; intro a hF
            refine r_take 8 hF rfl rfl rfl (by kernel_rfl) (by kernel_rfl) (by kernel_rfl) (fun _ _ _ h => h) rfl hS (fun w hS => x_iaddrV Try.underlying72 ty5 (hH.row 900 rfl) (hF.tmp 38 rfl) (hF.tmp 40 rfl) (by omega) (by omega) _) rfl ?_; clear hF; intro a hF
            refine r_take 10 hF rfl rfl rfl (by kernel_rfl) (by kernel_rfl) (by kernel_rfl) (fun _ _ _ h => h) rfl hS (fun w hS => x_move (hF.tmp 0 rfl)) rfl ?_; clear hF; intro a hF
            refine r_take 11 hF rfl rfl rfl (by kernel_rfl) (by kernel_rfl) (by kernel_rfl) (fun _ _ _ h => h) rfl hS (fun w hS => x_move (hF.tmp 7 rfl)) rfl ?_; clear hF; intro a hF
            refine r_take 12 hF rfl rfl rfl (by kernel_rfl) (by kernel_rfl) (by kernel_rfl) (fun _ _ _ h => h) rfl hS (fun w hS => x_iaddrV Try.underlying72 ty5 (hH.row 900 rfl) (hF.tmp 43 rfl) (hF.tmp 44 rfl) (by omega) (by omega) _) rfl ?_; clear hF; intro a hF
            refine r_do2 9 13 rfl rfl (by kernel_rfl) rfl rfl rfl rfl ?_ ?_
            ·
              refine w_at hF (x_load1 ty5 (hF.tmp 41 rfl) ((Row.rdV (hH.row 900 rfl)).cellA (gi_some (xs := dj.toList) (i := ((j - 1 : Nat) : Int)) (by omega) (by omega)))) rfl rfl ?_
              clear hF; intro a hF
              clear hS; have hS : SL _ _ := SL.of hH (sub_nil _); refine ⟨hS, ?_⟩
              refine r_do 13 rfl (by kernel_rfl) rfl rfl ?_
              refine w_at hF (x_load1 ty5 (hF.tmp 45 rfl) ((Row.rdV (hH.row 900 rfl)).cellA (gi_some (xs := dj.toList) (i := (j : Int)) (by omega) (by omega)))) rfl rfl ?_
              clear hF; intro a hF
              clear hS; have hS : SL _ _ := SL.of hH (sub_nil _); refine ⟨hS, ?_⟩
              refine r_take 14 hF rfl rfl rfl (by kernel_rfl) (by kernel_rfl) (by kernel_rfl) (fun _ _ _ h => h) rfl hS (fun w hS => x_iaddrV Try.underlying72 ty5 (hH.row 900 rfl) (hF.tmp 33 rfl) (hF.tmp 34 rfl) (by omega) (by omega) _) rfl ?_; clear hF; intro a hF
              refine r_do 15 rfl (by kernel_rfl) rfl rfl ?_
              refine w_setV (xs := dj.toList) 900 j (gi dj.toList (((j - 1) : Nat) : Int)) hH ty5 rfl (by first | omega | (simp only [List.length_set]; omega)) (hF.tmp 47 rfl) (hF.tmp 42 rfl) ?_
              clear hH; intro w hH
              clear hS; have hS : SL _ _ := SL.of hH (sub_nil _); refine ⟨hS, ?_⟩
              refine r_take 16 hF rfl rfl rfl (by kernel_rfl) (by kernel_rfl) (by kernel_rfl) (fun _ _ _ h => h) rfl hS (fun w hS => x_iaddrV Try.underlying72 ty5 (hH.row 900 rfl) (hF.tmp 35 rfl) (hF.tmp 37 rfl) (by omega) (by first | omega | (simp only [List.length_set]; omega)) _) rfl ?_; clear hF; intro a hF
              refine r_do 17 rfl (by kernel_rfl) rfl rfl ?_
              refine w_setV (xs := (dj.toList.set j (gi dj.toList (((j - 1) : Nat) : Int)))) 900 (j - 1) (gi dj.toList ((j : Nat) : Int)) hH ty5 rfl (by first | omega | (simp only [List.length_set]; omega)) (hF.tmp 48 rfl) (hF.tmp 46 rfl) ?_
              clear hH; intro w hH
              clear hS; have hS : SL _ _ := SL.of hH (sub_nil _); refine ⟨hS, ?_⟩
              have hH := hH.relab 900 (Y := .row RB 5 v (swp dj j (j - 1)).toList (fun _ => False)) rfl (by rw [swp_list])
              refine r_end (by kernel_rfl) ?_; clear hS
              exact hJr6 _ _  (((((hF.bare.add hF 7 rfl).add hF 6 rfl).add hF 2 rfl).add hF 1 rfl).add hF 0 rfl) (hH.sub _ (sub_cons (sub_nil _) 900 rfl))
            ·
              refine w_at hF (x_load1 ty5 (hF.tmp 45 rfl) ((Row.rdV (hH.row 900 rfl)).cellA (gi_some (xs := dj.toList) (i := (j : Int)) (by omega) (by omega)))) rfl rfl ?_
              clear hF; intro a hF
              clear hS; have hS : SL _ _ := SL.of hH (sub_nil _); refine ⟨hS, ?_⟩
              refine r_do 9 rfl (by kernel_rfl) rfl rfl ?_
              refine w_at hF (x_load1 ty5 (hF.tmp 41 rfl) ((Row.rdV (hH.row 900 rfl)).cellA (gi_some (xs := dj.toList) (i := ((j - 1 : Nat) : Int)) (by omega) (by omega)))) rfl rfl ?_
              clear hF; intro a hF
              clear hS; have hS : SL _ _ := SL.of hH (sub_nil _); refine ⟨hS, ?_⟩
              refine r_take 14 hF rfl rfl rfl (by kernel_rfl) (by kernel_rfl) (by kernel_rfl) (fun _ _ _ h => h) rfl hS (fun w hS => x_iaddrV Try.underlying72 ty5 (hH.row 900 rfl) (hF.tmp 33 rfl) (hF.tmp 34 rfl) (by omega) (by omega) _) rfl ?_; clear hF; intro a hF
              refine r_do 15 rfl (by kernel_rfl) rfl rfl ?_
              refine w_setV (xs := dj.toList) 900 j (gi dj.toList (((j - 1) : Nat) : Int)) hH ty5 rfl (by first | omega | (simp only [List.length_set]; omega)) (hF.tmp 47 rfl) (hF.tmp 42 rfl) ?_
              clear hH; intro w hH
              clear hS; have hS : SL _ _ := SL.of hH (sub_nil _); refine ⟨hS, ?_⟩
              refine r_take 16 hF rfl rfl rfl (by kernel_rfl) (by kernel_rfl) (by kernel_rfl) (fun _ _ _ h => h) rfl hS (fun w hS => x_iaddrV Try.underlying72 ty5 (hH.row 900 rfl) (hF.tmp 35 rfl) (hF.tmp 37 rfl) (by omega) (by first | omega | (simp only [List.length_set]; omega)) _) rfl ?_; clear hF; intro a hF
              refine r_do 17 rfl (by kernel_rfl) rfl rfl ?_
              refine w_setV (xs := (dj.toList.set j (gi dj.toList (((j - 1) : Nat) : Int)))) 900 (j - 1) (gi dj.toList ((j : Nat) : Int)) hH ty5 rfl (by first | omega | (simp only [List.length_set]; omega)) (hF.tmp 48 rfl) (hF.tmp 46 rfl) ?_
              clear hH; intro w hH
              clear hS; have hS : SL _ _ := SL.of hH (sub_nil _); refine ⟨hS, ?_⟩
              have hH := hH.relab 900 (Y := .row RB 5 v (swp dj j (j - 1)).toList (fun _ => False)) rfl (by rw [swp_list])
              refine r_end (by kernel_rfl) ?_; clear hS
              exact hJr6 _ _  (((((hF.bare.add hF 7 rfl).add hF 6 rfl).add hF 2 rfl).add hF 1 rfl).add hF 0 rfl) (hH.sub _ (sub_cons (sub_nil _) 900 rfl))
          · have hk30_3 := hc30; try simp only [Bool.or_eq_true, Bool.and_eq_true, Bool.or_eq_false_iff, Bool.and_eq_false_iff, Bool.not_eq_true', Bool.not_eq_false', decide_eq_true_eq, decide_eq_false_iff_not, Bool.not_true, Bool.not_false] at hc30
            refine wp_exit ?_
            refine hK4 _ _ ?_
            refine wp_region_lit ?_
            refine l_at hF rfl rfl rfl (x_move (hF.tmp 6 rfl)) ?_; clear hF; intro a hF
            refine l_at hF rfl rfl rfl (x_add (hF.tmp 13 rfl) rfl (show IntKind.i64.wrap _ = ((i + 1 : Nat) : Int) from by rw [w64 (by omega) (by omega)] <;> omega)) ?_; clear hF; intro a hF
            refine l_at hF rfl rfl rfl (x_assign (hF.tmp 14 rfl)) ?_; clear hF; intro a hF
            refine wpList_nil ?_
            exact ⟨_, by omega, ⟨i + 1, dj, rfl, by omega, by omega, hq2_2, (by rw [← hq0_3, ins_outer (i := i) (d := dk) (by omega), ← hq2_3, ins_stop2 hc30]), ((((hF.bare.add hF 6 rfl).add hF 2 rfl).add hF 1 rfl).add hF 0 rfl), hH.sub _ (sub_cons (sub_nil _) 900 rfl)⟩⟩
        · have hc19 := hb19; try simp only [Bool.or_eq_true, Bool.and_eq_true, Bool.or_eq_false_iff, Bool.and_eq_false_iff, Bool.not_eq_true', Bool.not_eq_false', decide_eq_true_eq, decide_eq_false_iff_not, Bool.not_true, Bool.not_false] at hc19
          refine r_off 4 hF rfl rfl rfl (by kernel_rfl) (by kernel_rfl) (by kernel_rfl) (fun _ _ _ h => h) ((wanted_of hF rfl rfl rfl rfl).trans (by rw [hb19]; rfl)) hS rfl ?_; clear hF; intro a hF
          refine r_off 5 hF rfl rfl rfl (by kernel_rfl) (by kernel_rfl) (by kernel_rfl) (fun _ _ _ h => h) ((wanted_of hF rfl rfl rfl rfl).trans (by rw [hb19]; rfl)) hS rfl ?_; clear hF; intro a hF
          refine r_off 6 hF rfl rfl rfl (by kernel_rfl) (by kernel_rfl) (by kernel_rfl) (fun _ _ _ h => h) ((wanted_of hF rfl rfl rfl rfl).trans (by rw [hb19]; rfl)) hS rfl ?_; clear hF; intro a hF
          refine r_off 7 hF rfl rfl rfl (by kernel_rfl) (by kernel_rfl) (by kernel_rfl) (fun _ _ _ h => h) ((wanted_of hF rfl rfl rfl rfl).trans (by rw [hb19]; rfl)) hS rfl ?_; clear hF; intro a hF
          refine r_off 8 hF rfl rfl rfl (by kernel_rfl) (by kernel_rfl) (by kernel_rfl) (fun _ _ _ h => h) ((wanted_of hF rfl rfl rfl rfl).trans (by rw [hb19]; rfl)) hS rfl ?_; clear hF; intro a hF
          refine r_off 9 hF rfl rfl rfl (by kernel_rfl) (by kernel_rfl) (by kernel_rfl) (fun _ _ _ h => h) ((wanted_of hF rfl rfl rfl rfl).trans (by rw [hb19]; rfl)) hS rfl ?_; clear hF; intro a hF
          refine r_off 10 hF rfl rfl rfl (by kernel_rfl) (by kernel_rfl) (by kernel_rfl) (fun _ _ _ h => h) ((wanted_of hF rfl rfl rfl rfl).trans (by rw [hb19]; rfl)) hS rfl ?_; clear hF; intro a hF
          refine r_off 11 hF rfl rfl rfl (by kernel_rfl) (by kernel_rfl) (by kernel_rfl) (fun _ _ _ h => h) ((wanted_of hF rfl rfl rfl rfl).trans (by rw [hb19]; rfl)) hS rfl ?_; clear hF; intro a hF
          refine r_off 12 hF rfl rfl rfl (by kernel_rfl) (by kernel_rfl) (by kernel_rfl) (fun _ _ _ h => h) ((wanted_of hF rfl rfl rfl rfl).trans (by rw [hb19]; rfl)) hS rfl ?_; clear hF; intro a hF
          refine r_off 13 hF rfl rfl rfl (by kernel_rfl) (by kernel_rfl) (by kernel_rfl) (fun _ _ _ h => h) ((wanted_of hF rfl rfl rfl rfl).trans (by rw [hb19]; rfl)) hS rfl ?_; clear hF; intro a hF
          refine r_take 14 hF rfl rfl rfl (by kernel_rfl) (by kernel_rfl) (by kernel_rfl) (fun _ _ _ h => h) rfl hS (fun w hS => x_pickF (hF.tmp 19 rfl) hb19 rfl) rfl ?_; clear hF; intro a hF
          refine r_end (by kernel_rfl) ?_; clear hS
          refine hK7 _ _ ?_
          refine wp_cond_false (hF.tmp 30 rfl) ?_
          refine wp_exit ?_
          refine hK4 _ _ ?_
          refine wp_region_lit ?_
          refine l_at hF rfl rfl rfl (x_move (hF.tmp 6 rfl)) ?_; clear hF; intro a hF
          refine l_at hF rfl rfl rfl (x_add (hF.tmp 13 rfl) rfl (show IntKind.i64.wrap _ = ((i + 1 : Nat) : Int) from by rw [w64 (by omega) (by omega)] <;> omega)) ?_; clear hF; intro a hF
          refine l_at hF rfl rfl rfl (x_assign (hF.tmp 14 rfl)) ?_; clear hF; intro a hF
          refine wpList_nil ?_
          exact ⟨_, by omega, ⟨i + 1, dj, rfl, by omega, by omega, hq2_2, (by rw [← hq0_3, ins_outer (i := i) (d := dk) (by omega), ← hq2_3, ins_stop1 (by omega)]), ((((hF.bare.add hF 6 rfl).add hF 2 rfl).add hF 1 rfl).add hF 0 rfl), hH.sub _ (sub_cons (sub_nil _) 900 rfl)⟩⟩
    · have hk12_4 := hc12; try simp only [Bool.or_eq_true, Bool.and_eq_true, Bool.or_eq_false_iff, Bool.and_eq_false_iff, Bool.not_eq_true', Bool.not_eq_false', decide_eq_true_eq, decide_eq_false_iff_not, Bool.not_true, Bool.not_false] at hc12
      refine wp_exit ?_
      try simp only [Exit.then, Exit.inBlock]
      try simp only [if_true]
      rw [ins_done (by omega)] at hq0_3
      exact fin_end hF (res0 rfl) ⟨rfl, hH.mods, by unfold insertionSort; rw [← hq0_3]; exact hH.row 900 rfl⟩

set_option maxRecDepth 100000 in
set_option maxHeartbeats 1000000 in
theorem rev_calls (w0 : World) {v : Value} {d : Array Int} (h : Row RB 5 w0 (fun _ => False) v d.toList) {la lb : Nat} (hab : la < lb) (hb : lb ≤ d.size) (hsz : d.size < 1000000000) : Calls Try.prog 49 #[v, .int .i64 (la : Int), .int .i64 (lb : Int)] w0 fun e w' => ∃ d' : Array Int, e = .returned (.tuple #[]) ∧ Mods (fun k => v.ownBlock = some k) w0 w' ∧ Row RB 5 w' (fun _ => False) v d'.toList ∧ PermIn la lb d d' := by
  refine calls_of_wp Try.func49 rfl ?_
  have hF := Fr.enter #[v, .int .i64 (la : Int), .int .i64 (lb : Int)] 32 (slotsOf [v, .int .i64 (la : Int), .int .i64 (lb : Int)] 0) (Nat.le_of_ble_eq_true rfl) (fun i v h => by have h2 := (get_slotsOf _ 0 i v h).2; simpa only [List.getElem?_toArray, Nat.sub_zero] using h2)
  rw [Try.ntmps49]
  revert hF; generalize (⟨(#[v, .int .i64 (la : Int), .int .i64 (lb : Int)] : Array Value) ++ Array.replicate (32 - (#[v, .int .i64 (la : Int), .int .i64 (lb : Int)] : Array Value).size) undef, []⟩ : Act) = a; intro hF
  have hH := Hp.ownrow 900 h (fun _ h => h.elim) (fun _ _ h => h)
  have hdl : d.toList.length = d.size := by simp
  refine wp_seq_k fun khK1 hK1 => ?_
  refine wp_region_lit ?_
  refine l_at hF rfl rfl rfl (x_move (hF.tmp 1 rfl)) ?_; clear hF; intro a hF
  refine l_at hF rfl rfl rfl (x_assign (hF.tmp 8 rfl)) ?_; clear hF; intro a hF
  refine wpList_nil ?_
  refine hK1 _ _ ?_
  refine wp_seq_k fun khK2 hK2 => ?_
  refine wp_region_lit ?_
  refine l_at hF rfl rfl rfl (x_move (hF.tmp 2 rfl)) ?_; clear hF; intro a hF
  refine l_at hF rfl rfl rfl (x_sub (hF.tmp 9 rfl) rfl (show IntKind.i64.wrap _ = ((lb - 1 : Nat) : Int) from by rw [w64 (by omega) (by omega)] <;> omega)) ?_; clear hF; intro a hF
  refine l_at hF rfl rfl rfl (x_assign (hF.tmp 10 rfl)) ?_; clear hF; intro a hF
  refine wpList_nil ?_
  refine hK2 _ _ ?_
  refine wp_block ?_
  refine wp_loop_ghost (fun n_ a w => ∃ i : Nat, ∃ j : Nat, ∃ dk : Array Int, n_ = j - i ∧ (la ≤ i) ∧ (j < lb) ∧ (dk.size = d.size) ∧ (PermIn la lb d dk) ∧ Fr 32 a [(0, v), (6, .int .i64 (i : Int)), (7, .int .i64 (j : Int))] ∧ Hp (fun k => v.ownBlock = some k) w0 w [(900, .row RB 5 v dk.toList (fun _ => False))]) (lb - 1 - la) ?_ ?_
  · exact ⟨la, lb - 1, d, rfl, by omega, by omega, rfl, permIn_refl _ _ _, (((hF.bare.add hF 7 rfl).add hF 6 rfl).add hF 0 rfl), hH.sub _ (sub_cons (sub_nil _) 900 rfl)⟩
  · rintro _ a w ⟨i, j, dk, rfl, hq0_0, hq0_1, hq0_2, hq0_3, hF, hH⟩
    have hl_dk : dk.toList.length = d.size := by simp only [Array.length_toList]; omega
    refine wp_seq_k fun khK3 hK3 => ?_
    refine wp_seq_k fun khK4 hK4 => ?_
    refine wp_region_lit ?_
    refine l_at hF rfl rfl rfl (x_move (hF.tmp 6 rfl)) ?_; clear hF; intro a hF
    refine l_at hF rfl rfl rfl (x_move (hF.tmp 7 rfl)) ?_; clear hF; intro a hF
    refine l_at hF rfl rfl rfl (x_lss (hF.tmp 11 rfl) (hF.tmp 12 rfl)) ?_; clear hF; intro a hF
    refine wpList_nil ?_
    refine hK4 _ _ ?_
    refine wp_cond_split (hF.tmp 13 rfl) (fun hc13 => ?_) (fun hc13 => ?_)
    · have hk13_1 := hc13; try simp only [Bool.or_eq_true, Bool.and_eq_true, Bool.or_eq_false_iff, Bool.and_eq_false_iff, Bool.not_eq_true', Bool.not_eq_false', decide_eq_true_eq, decide_eq_false_iff_not, Bool.not_true, Bool.not_false] at hc13
      refine wp_skip ?_
      refine hK3 _ _ ?_
      refine wp_block ?_
      refine wp_seq_k fun khK5 hK5 => ?_
      have hJr3 : ∀ a w, Fr 32 a [(0, v), (6, .int .i64 (i : Int)), (7, .int .i64 (j : Int))] → Hp (fun k => v.ownBlock = some k) w0 w [(900, .row RB 5 v (swp dk i j).toList (fun _ => False))] → khK5 a w := by
        intro a w  hF hH
        refine hK5 a w ?_
        refine wp_seq_k fun khK6 hK6 => ?_
        refine wp_region_lit ?_
        refine l_at hF rfl rfl rfl (x_move (hF.tmp 6 rfl)) ?_; clear hF; intro a hF
        refine l_at hF rfl rfl rfl (x_add (hF.tmp 28 rfl) rfl (show IntKind.i64.wrap _ = ((i + 1 : Nat) : Int) from by rw [w64 (by omega) (by omega)] <;> omega)) ?_; clear hF; intro a hF
        refine l_at hF rfl rfl rfl (x_assign (hF.tmp 29 rfl)) ?_; clear hF; intro a hF
        refine wpList_nil ?_
        refine hK6 _ _ ?_
        refine wp_region_lit ?_
        refine l_at hF rfl rfl rfl (x_move (hF.tmp 7 rfl)) ?_; clear hF; intro a hF
        refine l_at hF rfl rfl rfl (x_sub (hF.tmp 30 rfl) rfl (show IntKind.i64.wrap _ = ((j - 1 : Nat) : Int) from by rw [w64 (by omega) (by omega)] <;> omega)) ?_; clear hF; intro a hF
        refine l_at hF rfl rfl rfl (x_assign (hF.tmp 31 rfl)) ?_; clear hF; intro a hF
        refine wpList_nil ?_
        exact ⟨_, by omega, ⟨i + 1, j - 1, (swp dk i j), rfl, by omega, by omega, (by rw [swp_size]; exact hq0_2), permIn_trans _ _ _ _ _ hq0_3 (swp_permIn _ _ _ _ _ (by omega) (by omega) (by omega) (by omega) (by omega)), (((hF.bare.add hF 7 rfl).add hF 6 rfl).add hF 0 rfl), hH.sub _ (sub_cons (sub_nil _) 900 rfl)⟩⟩
      refine r_start [] (by kernel_rfl) hH fun hH => ?_
      have hS : SL [] _ := SL.of hH (sub_nil _)
      refine r_take 0 hF rfl rfl rfl (by kernel_rfl) (by kernel_rfl) (by kernel_rfl) (fun _ _ _ h => h) rfl hS (fun w hS => x_move (hF.tmp 0 rfl)) rfl ?_; clear hF; intro a hF
      refine r_take 1 hF rfl rfl rfl (by kernel_rfl) (by kernel_rfl) (by kernel_rfl) (fun _ _ _ h => h) rfl hS (fun w hS => x_move (hF.tmp 6 rfl)) rfl ?_; clear hF; intro a hF
      refine r_take 2 hF rfl rfl rfl (by kernel_rfl) (by kernel_rfl) (by kernel_rfl) (fun _ _ _ h => h) rfl hS (fun w hS => x_move (hF.tmp 0 rfl)) rfl ?_; clear hF; intro a hF
      refine r_take 3 hF rfl rfl rfl (by kernel_rfl) (by kernel_rfl) (by kernel_rfl) (fun _ _ _ h => h) rfl hS (fun w hS => x_move (hF.tmp 7 rfl)) rfl ?_; clear hF; intro a hF
      refine r_take 4 hF rfl rfl rfl (by kernel_rfl) (by kernel_rfl) (by kernel_rfl) (fun _ _ _ h => h) rfl hS (fun w hS => x_move (hF.tmp 0 rfl)) rfl ?_; clear hF; intro a hF
      refine r_take 5 hF rfl rfl rfl (by kernel_rfl) (by kernel_rfl) (by kernel_rfl) (fun _ _ _ h => h) rfl hS (fun w hS => x_move (hF.tmp 7 rfl)) rfl ?_; clear hF; intro a hF
      refine r_take 6 hF rfl rfl rfl (by kernel_rfl) (by kernel_rfl) (by kernel_rfl) (fun _ _ _ h => h) rfl hS (fun w hS => x_iaddrV Try.underlying72 ty5 (hH.row 900 rfl) (hF.tmp 18 rfl) (hF.tmp 19 rfl) (by omega) (by omega) _) rfl ?_; clear hF; intro a hF
      refine r_take 8 hF rfl rfl rfl (by kernel_rfl) (by kernel_rfl) (by kernel_rfl) (fun _ _ _ h => h) rfl hS (fun w hS => x_move (hF.tmp 0 rfl)) rfl ?_; clear hF; intro a hF
      refine r_take 9 hF rfl rfl rfl (by kernel_rfl) (by kernel_rfl) (by kernel_rfl) (fun _ _ _ h => h) rfl hS (fun w hS => x_move (hF.tmp 6 rfl)) rfl ?_; clear hF; intro a hF
      refine r_take 10 hF rfl rfl rfl (by kernel_rfl) (by kernel_rfl) (by kernel_rfl) (fun _ _ _ h => h) rfl hS (fun w hS => x_iaddrV Try.underlying72 ty5 (hH.row 900 rfl) (hF.tmp 22 rfl) (hF.tmp 23 rfl) (by omega) (by omega) _) rfl ?_; clear hF; intro a hF
      refine r_do2 7 11 rfl rfl (by kernel_rfl) rfl rfl rfl rfl ?_ ?_
      ·
        refine w_at hF (x_load1 ty5 (hF.tmp 20 rfl) ((Row.rdV (hH.row 900 rfl)).cellA (gi_some (xs := dk.toList) (i := (j : Int)) (by omega) (by omega)))) rfl rfl ?_
        clear hF; intro a hF
        clear hS; have hS : SL _ _ := SL.of hH (sub_nil _); refine ⟨hS, ?_⟩
        refine r_do 11 rfl (by kernel_rfl) rfl rfl ?_
        refine w_at hF (x_load1 ty5 (hF.tmp 24 rfl) ((Row.rdV (hH.row 900 rfl)).cellA (gi_some (xs := dk.toList) (i := (i : Int)) (by omega) (by omega)))) rfl rfl ?_
        clear hF; intro a hF
        clear hS; have hS : SL _ _ := SL.of hH (sub_nil _); refine ⟨hS, ?_⟩
        refine r_take 12 hF rfl rfl rfl (by kernel_rfl) (by kernel_rfl) (by kernel_rfl) (fun _ _ _ h => h) rfl hS (fun w hS => x_iaddrV Try.underlying72 ty5 (hH.row 900 rfl) (hF.tmp 14 rfl) (hF.tmp 15 rfl) (by omega) (by omega) _) rfl ?_; clear hF; intro a hF
        refine r_do 13 rfl (by kernel_rfl) rfl rfl ?_
        refine w_setV (xs := dk.toList) 900 i (gi dk.toList ((j : Nat) : Int)) hH ty5 rfl (by first | omega | (simp only [List.length_set]; omega)) (hF.tmp 26 rfl) (hF.tmp 21 rfl) ?_
        clear hH; intro w hH
        clear hS; have hS : SL _ _ := SL.of hH (sub_nil _); refine ⟨hS, ?_⟩
        refine r_take 14 hF rfl rfl rfl (by kernel_rfl) (by kernel_rfl) (by kernel_rfl) (fun _ _ _ h => h) rfl hS (fun w hS => x_iaddrV Try.underlying72 ty5 (hH.row 900 rfl) (hF.tmp 16 rfl) (hF.tmp 17 rfl) (by omega) (by first | omega | (simp only [List.length_set]; omega)) _) rfl ?_; clear hF; intro a hF
        refine r_do 15 rfl (by kernel_rfl) rfl rfl ?_
        refine w_setV (xs := (dk.toList.set i (gi dk.toList ((j : Nat) : Int)))) 900 j (gi dk.toList ((i : Nat) : Int)) hH ty5 rfl (by first | omega | (simp only [List.length_set]; omega)) (hF.tmp 27 rfl) (hF.tmp 25 rfl) ?_
        clear hH; intro w hH
        clear hS; have hS : SL _ _ := SL.of hH (sub_nil _); refine ⟨hS, ?_⟩
        have hH := hH.relab 900 (Y := .row RB 5 v (swp dk i j).toList (fun _ => False)) rfl (by rw [swp_list])
        refine r_end (by kernel_rfl) ?_; clear hS
        exact hJr3 _ _  (((hF.bare.add hF 7 rfl).add hF 6 rfl).add hF 0 rfl) (hH.sub _ (sub_cons (sub_nil _) 900 rfl))
      ·
        refine w_at hF (x_load1 ty5 (hF.tmp 24 rfl) ((Row.rdV (hH.row 900 rfl)).cellA (gi_some (xs := dk.toList) (i := (i : Int)) (by omega) (by omega)))) rfl rfl ?_
        clear hF; intro a hF
        clear hS; have hS : SL _ _ := SL.of hH (sub_nil _); refine ⟨hS, ?_⟩
        refine r_do 7 rfl (by kernel_rfl) rfl rfl ?_
        refine w_at hF (x_load1 ty5 (hF.tmp 20 rfl) ((Row.rdV (hH.row 900 rfl)).cellA (gi_some (xs := dk.toList) (i := (j : Int)) (by omega) (by omega)))) rfl rfl ?_
        clear hF; intro a hF
        clear hS; have hS : SL _ _ := SL.of hH (sub_nil _); refine ⟨hS, ?_⟩
        refine r_take 12 hF rfl rfl rfl (by kernel_rfl) (by kernel_rfl) (by kernel_rfl) (fun _ _ _ h => h) rfl hS (fun w hS => x_iaddrV Try.underlying72 ty5 (hH.row 900 rfl) (hF.tmp 14 rfl) (hF.tmp 15 rfl) (by omega) (by omega) _) rfl ?_; clear hF; intro a hF
        refine r_do 13 rfl (by kernel_rfl) rfl rfl ?_
        refine w_setV (xs := dk.toList) 900 i (gi dk.toList ((j : Nat) : Int)) hH ty5 rfl (by first | omega | (simp only [List.length_set]; omega)) (hF.tmp 26 rfl) (hF.tmp 21 rfl) ?_
        clear hH; intro w hH
        clear hS; have hS : SL _ _ := SL.of hH (sub_nil _); refine ⟨hS, ?_⟩
        refine r_take 14 hF rfl rfl rfl (by kernel_rfl) (by kernel_rfl) (by kernel_rfl) (fun _ _ _ h => h) rfl hS (fun w hS => x_iaddrV Try.underlying72 ty5 (hH.row 900 rfl) (hF.tmp 16 rfl) (hF.tmp 17 rfl) (by omega) (by first | omega | (simp only [List.length_set]; omega)) _) rfl ?_; clear hF; intro a hF
        refine r_do 15 rfl (by kernel_rfl) rfl rfl ?_
        refine w_setV (xs := (dk.toList.set i (gi dk.toList ((j : Nat) : Int)))) 900 j (gi dk.toList ((i : Nat) : Int)) hH ty5 rfl (by first | omega | (simp only [List.length_set]; omega)) (hF.tmp 27 rfl) (hF.tmp 25 rfl) ?_
        clear hH; intro w hH
        clear hS; have hS : SL _ _ := SL.of hH (sub_nil _); refine ⟨hS, ?_⟩
        have hH := hH.relab 900 (Y := .row RB 5 v (swp dk i j).toList (fun _ => False)) rfl (by rw [swp_list])
        refine r_end (by kernel_rfl) ?_; clear hS
        exact hJr3 _ _  (((hF.bare.add hF 7 rfl).add hF 6 rfl).add hF 0 rfl) (hH.sub _ (sub_cons (sub_nil _) 900 rfl))
    · have hk13_2 := hc13; try simp only [Bool.or_eq_true, Bool.and_eq_true, Bool.or_eq_false_iff, Bool.and_eq_false_iff, Bool.not_eq_true', Bool.not_eq_false', decide_eq_true_eq, decide_eq_false_iff_not, Bool.not_true, Bool.not_false] at hc13
      refine wp_exit ?_
      try simp only [Exit.then, Exit.inBlock]
      try simp only [if_true]
      try simp only [Nat.reduceEqDiff, reduceIte]
      exact fin_end hF (res0 rfl) ⟨dk, rfl, hH.mods, hH.row 900 rfl, hq0_3⟩

set_option maxRecDepth 100000 in
set_option maxHeartbeats 1000000 in
theorem next_calls (w0 : World) {sb : Nat} {sv : Int} (hsb : w0.heap[sb]? = some (.cells #[.int .u64 sv] 96 (0, 0))) : Calls Try.prog 58 #[.pointer (some ⟨sb, 0, none⟩)] w0 fun e w' => ∃ s3 : Int, e = .returned (.int .u64 s3) ∧ Mods (fun k => k = sb) w0 w' ∧ w'.heap[sb]? = some (.cells #[.int .u64 s3] 96 (0, 0)) := by
  refine calls_of_wp Try.func58 rfl ?_
  have hF := Fr.enter #[.pointer (some ⟨sb, 0, none⟩)] 33 (slotsOf [.pointer (some ⟨sb, 0, none⟩)] 0) (Nat.le_of_ble_eq_true rfl) (fun i v h => by have h2 := (get_slotsOf _ 0 i v h).2; simpa only [List.getElem?_toArray, Nat.sub_zero] using h2)
  rw [Try.ntmps58]
  revert hF; generalize (⟨(#[.pointer (some ⟨sb, 0, none⟩)] : Array Value) ++ Array.replicate (33 - (#[.pointer (some ⟨sb, 0, none⟩)] : Array Value).size) undef, []⟩ : Act) = a; intro hF
  have hH := Hp.ownblk 1 hsb
  refine wp_seq_k fun khK1 hK1 => ?_
  refine wp_region_lit ?_
  refine l_at hF rfl rfl rfl (x_assign rfl) ?_; clear hF; intro a hF
  refine wpList_nil ?_
  refine hK1 _ _ ?_
  refine wp_seq_k fun khK2 hK2 => ?_
  have hJr1 : ∀ a w, ∀ s1 : Int, Fr 33 a [(0, .pointer (some ⟨sb, 0, none⟩))] → Hp (fun k => k = sb) w0 w [(1, .blk sb (.cells #[.int .u64 s1] 96 (0, 0)))] → khK2 a w := by
    intro a w s1 hF hH
    refine hK2 a w ?_
    refine wp_seq_k fun khK3 hK3 => ?_
    have hJr2 : ∀ a w, ∀ s2 : Int, Fr 33 a [(0, .pointer (some ⟨sb, 0, none⟩))] → Hp (fun k => k = sb) w0 w [(1, .blk sb (.cells #[.int .u64 s2] 96 (0, 0)))] → khK3 a w := by
      intro a w s2 hF hH
      refine hK3 a w ?_
      refine wp_seq_k fun khK4 hK4 => ?_
      have hJr3 : ∀ a w, ∀ s3 : Int, Fr 33 a [(0, .pointer (some ⟨sb, 0, none⟩))] → Hp (fun k => k = sb) w0 w [(1, .blk sb (.cells #[.int .u64 s3] 96 (0, 0)))] → khK4 a w := by
        intro a w s3 hF hH
        refine hK4 a w ?_
        refine wp_seq_k fun khK5 hK5 => ?_
        refine wp_region_lit ?_
        refine l_at hF rfl rfl rfl (x_move (hF.tmp 0 rfl)) ?_; clear hF; intro a hF
        refine l_at hF rfl rfl rfl (x_nil (hF.tmp 30 rfl)) ?_; clear hF; intro a hF
        refine l_at hF rfl rfl rfl (x_load1 ty96 (hF.tmp 31 rfl) (blk_cell (hH.at 1 rfl) 0 rfl)) ?_; clear hF; intro a hF
        refine l_at hF rfl rfl rfl (x_assign (hF.tmp 32 rfl)) ?_; clear hF; intro a hF
        refine wpList_nil ?_
        refine hK5 _ _ ?_
        refine wp_ret ?_
        try simp only [Exit.then, Exit.inBlock]
        exact fin_ret hF (res1 hF rfl rfl) ⟨_, rfl, hH.mods, hH.at 1 rfl⟩
      refine r_start [] (by kernel_rfl) hH fun hH => ?_
      have hS : SL [] _ := SL.of hH (sub_nil _)
      refine r_take 0 hF rfl rfl rfl (by kernel_rfl) (by kernel_rfl) (by kernel_rfl) (fun _ _ _ h => h) rfl hS (fun w hS => x_move (hF.tmp 0 rfl)) rfl ?_; clear hF; intro a hF
      refine r_take 1 hF rfl rfl rfl (by kernel_rfl) (by kernel_rfl) (by kernel_rfl) (fun _ _ _ h => h) rfl hS (fun w hS => x_nil (hF.tmp 21 rfl)) rfl ?_; clear hF; intro a hF
      refine r_take 3 hF rfl rfl rfl (by kernel_rfl) (by kernel_rfl) (by kernel_rfl) (fun _ _ _ h => h) rfl hS (fun w hS => x_move (hF.tmp 0 rfl)) rfl ?_; clear hF; intro a hF
      refine r_take 4 hF rfl rfl rfl (by kernel_rfl) (by kernel_rfl) (by kernel_rfl) (fun _ _ _ h => h) rfl hS (fun w hS => x_nil (hF.tmp 24 rfl)) rfl ?_; clear hF; intro a hF
      refine r_do2 2 5 rfl rfl (by kernel_rfl) rfl rfl rfl rfl ?_ ?_
      ·
        refine w_at hF (x_load1 ty96 (hF.tmp 22 rfl) (blk_cell (hH.at 1 rfl) 0 rfl)) rfl rfl ?_
        clear hF; intro a hF
        clear hS; have hS : SL _ _ := SL.of hH (sub_nil _); refine ⟨hS, ?_⟩
        refine r_do 5 rfl (by kernel_rfl) rfl rfl ?_
        refine w_at hF (x_load1 ty96 (hF.tmp 25 rfl) (blk_cell (hH.at 1 rfl) 0 rfl)) rfl rfl ?_
        clear hF; intro a hF
        clear hS; have hS : SL _ _ := SL.of hH (sub_nil _); refine ⟨hS, ?_⟩
        refine r_take 6 hF rfl rfl rfl (by kernel_rfl) (by kernel_rfl) (by kernel_rfl) (fun _ _ _ h => h) rfl hS (fun w hS => x_shl (hF.tmp 26 rfl) rfl (by omega) rfl) rfl ?_; clear hF; intro a hF
        refine r_take 7 hF rfl rfl rfl (by kernel_rfl) (by kernel_rfl) (by kernel_rfl) (fun _ _ _ h => h) rfl hS (fun w hS => x_bits (by simp) (hF.tmp 23 rfl) (hF.tmp 27 rfl) rfl) rfl ?_; clear hF; intro a hF
        refine r_take 8 hF rfl rfl rfl (by kernel_rfl) (by kernel_rfl) (by kernel_rfl) (fun _ _ _ h => h) rfl hS (fun w hS => x_nil (hF.tmp 21 rfl)) rfl ?_; clear hF; intro a hF
        refine r_do 9 rfl (by kernel_rfl) rfl rfl ?_
        refine w_store 1 hH ty96 rfl (hF.tmp 29 rfl) (hF.tmp 28 rfl) rfl (one1 rfl rfl) (by first | decide | exact Nat.le_of_ble_eq_true rfl) ?_
        clear hH; intro w hH
        clear hS; have hS : SL _ _ := SL.of hH (sub_nil _); refine ⟨hS, ?_⟩
        refine r_end (by kernel_rfl) ?_; clear hS
        exact hJr3 _ _ _ (hF.bare.add hF 0 rfl) (hH.sub _ (sub_cons (sub_nil _) 1 rfl))
      ·
        refine w_at hF (x_load1 ty96 (hF.tmp 25 rfl) (blk_cell (hH.at 1 rfl) 0 rfl)) rfl rfl ?_
        clear hF; intro a hF
        clear hS; have hS : SL _ _ := SL.of hH (sub_nil _); refine ⟨hS, ?_⟩
        refine r_take 6 hF rfl rfl rfl (by kernel_rfl) (by kernel_rfl) (by kernel_rfl) (fun _ _ _ h => h) rfl hS (fun w hS => x_shl (hF.tmp 26 rfl) rfl (by omega) rfl) rfl ?_; clear hF; intro a hF
        refine r_do 2 rfl (by kernel_rfl) rfl rfl ?_
        refine w_at hF (x_load1 ty96 (hF.tmp 22 rfl) (blk_cell (hH.at 1 rfl) 0 rfl)) rfl rfl ?_
        clear hF; intro a hF
        clear hS; have hS : SL _ _ := SL.of hH (sub_nil _); refine ⟨hS, ?_⟩
        refine r_take 7 hF rfl rfl rfl (by kernel_rfl) (by kernel_rfl) (by kernel_rfl) (fun _ _ _ h => h) rfl hS (fun w hS => x_bits (by simp) (hF.tmp 23 rfl) (hF.tmp 27 rfl) rfl) rfl ?_; clear hF; intro a hF
        refine r_take 8 hF rfl rfl rfl (by kernel_rfl) (by kernel_rfl) (by kernel_rfl) (fun _ _ _ h => h) rfl hS (fun w hS => x_nil (hF.tmp 21 rfl)) rfl ?_; clear hF; intro a hF
        refine r_do 9 rfl (by kernel_rfl) rfl rfl ?_
        refine w_store 1 hH ty96 rfl (hF.tmp 29 rfl) (hF.tmp 28 rfl) rfl (one1 rfl rfl) (by first | decide | exact Nat.le_of_ble_eq_true rfl) ?_
        clear hH; intro w hH
        clear hS; have hS : SL _ _ := SL.of hH (sub_nil _); refine ⟨hS, ?_⟩
        refine r_end (by kernel_rfl) ?_; clear hS
        exact hJr3 _ _ _ (hF.bare.add hF 0 rfl) (hH.sub _ (sub_cons (sub_nil _) 1 rfl))
    refine r_start [] (by kernel_rfl) hH fun hH => ?_
    have hS : SL [] _ := SL.of hH (sub_nil _)
    refine r_take 0 hF rfl rfl rfl (by kernel_rfl) (by kernel_rfl) (by kernel_rfl) (fun _ _ _ h => h) rfl hS (fun w hS => x_move (hF.tmp 0 rfl)) rfl ?_; clear hF; intro a hF
    refine r_take 1 hF rfl rfl rfl (by kernel_rfl) (by kernel_rfl) (by kernel_rfl) (fun _ _ _ h => h) rfl hS (fun w hS => x_nil (hF.tmp 12 rfl)) rfl ?_; clear hF; intro a hF
    refine r_take 3 hF rfl rfl rfl (by kernel_rfl) (by kernel_rfl) (by kernel_rfl) (fun _ _ _ h => h) rfl hS (fun w hS => x_move (hF.tmp 0 rfl)) rfl ?_; clear hF; intro a hF
    refine r_take 4 hF rfl rfl rfl (by kernel_rfl) (by kernel_rfl) (by kernel_rfl) (fun _ _ _ h => h) rfl hS (fun w hS => x_nil (hF.tmp 15 rfl)) rfl ?_; clear hF; intro a hF
    refine r_do2 2 5 rfl rfl (by kernel_rfl) rfl rfl rfl rfl ?_ ?_
    ·
      refine w_at hF (x_load1 ty96 (hF.tmp 13 rfl) (blk_cell (hH.at 1 rfl) 0 rfl)) rfl rfl ?_
      clear hF; intro a hF
      clear hS; have hS : SL _ _ := SL.of hH (sub_nil _); refine ⟨hS, ?_⟩
      refine r_do 5 rfl (by kernel_rfl) rfl rfl ?_
      refine w_at hF (x_load1 ty96 (hF.tmp 16 rfl) (blk_cell (hH.at 1 rfl) 0 rfl)) rfl rfl ?_
      clear hF; intro a hF
      clear hS; have hS : SL _ _ := SL.of hH (sub_nil _); refine ⟨hS, ?_⟩
      refine r_take 6 hF rfl rfl rfl (by kernel_rfl) (by kernel_rfl) (by kernel_rfl) (fun _ _ _ h => h) rfl hS (fun w hS => x_shr (hF.tmp 17 rfl) rfl (by omega) rfl) rfl ?_; clear hF; intro a hF
      refine r_take 7 hF rfl rfl rfl (by kernel_rfl) (by kernel_rfl) (by kernel_rfl) (fun _ _ _ h => h) rfl hS (fun w hS => x_bits (by simp) (hF.tmp 14 rfl) (hF.tmp 18 rfl) rfl) rfl ?_; clear hF; intro a hF
      refine r_take 8 hF rfl rfl rfl (by kernel_rfl) (by kernel_rfl) (by kernel_rfl) (fun _ _ _ h => h) rfl hS (fun w hS => x_nil (hF.tmp 12 rfl)) rfl ?_; clear hF; intro a hF
      refine r_do 9 rfl (by kernel_rfl) rfl rfl ?_
      refine w_store 1 hH ty96 rfl (hF.tmp 20 rfl) (hF.tmp 19 rfl) rfl (one1 rfl rfl) (by first | decide | exact Nat.le_of_ble_eq_true rfl) ?_
      clear hH; intro w hH
      clear hS; have hS : SL _ _ := SL.of hH (sub_nil _); refine ⟨hS, ?_⟩
      refine r_end (by kernel_rfl) ?_; clear hS
      exact hJr2 _ _ _ (hF.bare.add hF 0 rfl) (hH.sub _ (sub_cons (sub_nil _) 1 rfl))
    ·
      refine w_at hF (x_load1 ty96 (hF.tmp 16 rfl) (blk_cell (hH.at 1 rfl) 0 rfl)) rfl rfl ?_
      clear hF; intro a hF
      clear hS; have hS : SL _ _ := SL.of hH (sub_nil _); refine ⟨hS, ?_⟩
      refine r_take 6 hF rfl rfl rfl (by kernel_rfl) (by kernel_rfl) (by kernel_rfl) (fun _ _ _ h => h) rfl hS (fun w hS => x_shr (hF.tmp 17 rfl) rfl (by omega) rfl) rfl ?_; clear hF; intro a hF
      refine r_do 2 rfl (by kernel_rfl) rfl rfl ?_
      refine w_at hF (x_load1 ty96 (hF.tmp 13 rfl) (blk_cell (hH.at 1 rfl) 0 rfl)) rfl rfl ?_
      clear hF; intro a hF
      clear hS; have hS : SL _ _ := SL.of hH (sub_nil _); refine ⟨hS, ?_⟩
      refine r_take 7 hF rfl rfl rfl (by kernel_rfl) (by kernel_rfl) (by kernel_rfl) (fun _ _ _ h => h) rfl hS (fun w hS => x_bits (by simp) (hF.tmp 14 rfl) (hF.tmp 18 rfl) rfl) rfl ?_; clear hF; intro a hF
      refine r_take 8 hF rfl rfl rfl (by kernel_rfl) (by kernel_rfl) (by kernel_rfl) (fun _ _ _ h => h) rfl hS (fun w hS => x_nil (hF.tmp 12 rfl)) rfl ?_; clear hF; intro a hF
      refine r_do 9 rfl (by kernel_rfl) rfl rfl ?_
      refine w_store 1 hH ty96 rfl (hF.tmp 20 rfl) (hF.tmp 19 rfl) rfl (one1 rfl rfl) (by first | decide | exact Nat.le_of_ble_eq_true rfl) ?_
      clear hH; intro w hH
      clear hS; have hS : SL _ _ := SL.of hH (sub_nil _); refine ⟨hS, ?_⟩
      refine r_end (by kernel_rfl) ?_; clear hS
      exact hJr2 _ _ _ (hF.bare.add hF 0 rfl) (hH.sub _ (sub_cons (sub_nil _) 1 rfl))
  refine r_start [] (by kernel_rfl) hH fun hH => ?_
  have hS : SL [] _ := SL.of hH (sub_nil _)
  refine r_take 0 hF rfl rfl rfl (by kernel_rfl) (by kernel_rfl) (by kernel_rfl) (fun _ _ _ h => h) rfl hS (fun w hS => x_move (hF.tmp 0 rfl)) rfl ?_; clear hF; intro a hF
  refine r_take 1 hF rfl rfl rfl (by kernel_rfl) (by kernel_rfl) (by kernel_rfl) (fun _ _ _ h => h) rfl hS (fun w hS => x_nil (hF.tmp 3 rfl)) rfl ?_; clear hF; intro a hF
  refine r_take 3 hF rfl rfl rfl (by kernel_rfl) (by kernel_rfl) (by kernel_rfl) (fun _ _ _ h => h) rfl hS (fun w hS => x_move (hF.tmp 0 rfl)) rfl ?_; clear hF; intro a hF
  refine r_take 4 hF rfl rfl rfl (by kernel_rfl) (by kernel_rfl) (by kernel_rfl) (fun _ _ _ h => h) rfl hS (fun w hS => x_nil (hF.tmp 6 rfl)) rfl ?_; clear hF; intro a hF
  refine r_do2 2 5 rfl rfl (by kernel_rfl) rfl rfl rfl rfl ?_ ?_
  ·
    refine w_at hF (x_load1 ty96 (hF.tmp 4 rfl) (blk_cell (hH.at 1 rfl) 0 rfl)) rfl rfl ?_
    clear hF; intro a hF
    clear hS; have hS : SL _ _ := SL.of hH (sub_nil _); refine ⟨hS, ?_⟩
    refine r_do 5 rfl (by kernel_rfl) rfl rfl ?_
    refine w_at hF (x_load1 ty96 (hF.tmp 7 rfl) (blk_cell (hH.at 1 rfl) 0 rfl)) rfl rfl ?_
    clear hF; intro a hF
    clear hS; have hS : SL _ _ := SL.of hH (sub_nil _); refine ⟨hS, ?_⟩
    refine r_take 6 hF rfl rfl rfl (by kernel_rfl) (by kernel_rfl) (by kernel_rfl) (fun _ _ _ h => h) rfl hS (fun w hS => x_shl (hF.tmp 8 rfl) rfl (by omega) rfl) rfl ?_; clear hF; intro a hF
    refine r_take 7 hF rfl rfl rfl (by kernel_rfl) (by kernel_rfl) (by kernel_rfl) (fun _ _ _ h => h) rfl hS (fun w hS => x_bits (by simp) (hF.tmp 5 rfl) (hF.tmp 9 rfl) rfl) rfl ?_; clear hF; intro a hF
    refine r_take 8 hF rfl rfl rfl (by kernel_rfl) (by kernel_rfl) (by kernel_rfl) (fun _ _ _ h => h) rfl hS (fun w hS => x_nil (hF.tmp 3 rfl)) rfl ?_; clear hF; intro a hF
    refine r_do 9 rfl (by kernel_rfl) rfl rfl ?_
    refine w_store 1 hH ty96 rfl (hF.tmp 11 rfl) (hF.tmp 10 rfl) rfl (one1 rfl rfl) (by first | decide | exact Nat.le_of_ble_eq_true rfl) ?_
    clear hH; intro w hH
    clear hS; have hS : SL _ _ := SL.of hH (sub_nil _); refine ⟨hS, ?_⟩
    refine r_end (by kernel_rfl) ?_; clear hS
    exact hJr1 _ _ _ (hF.bare.add hF 0 rfl) (hH.sub _ (sub_cons (sub_nil _) 1 rfl))
  ·
    refine w_at hF (x_load1 ty96 (hF.tmp 7 rfl) (blk_cell (hH.at 1 rfl) 0 rfl)) rfl rfl ?_
    clear hF; intro a hF
    clear hS; have hS : SL _ _ := SL.of hH (sub_nil _); refine ⟨hS, ?_⟩
    refine r_take 6 hF rfl rfl rfl (by kernel_rfl) (by kernel_rfl) (by kernel_rfl) (fun _ _ _ h => h) rfl hS (fun w hS => x_shl (hF.tmp 8 rfl) rfl (by omega) rfl) rfl ?_; clear hF; intro a hF
    refine r_do 2 rfl (by kernel_rfl) rfl rfl ?_
    refine w_at hF (x_load1 ty96 (hF.tmp 4 rfl) (blk_cell (hH.at 1 rfl) 0 rfl)) rfl rfl ?_
    clear hF; intro a hF
    clear hS; have hS : SL _ _ := SL.of hH (sub_nil _); refine ⟨hS, ?_⟩
    refine r_take 7 hF rfl rfl rfl (by kernel_rfl) (by kernel_rfl) (by kernel_rfl) (fun _ _ _ h => h) rfl hS (fun w hS => x_bits (by simp) (hF.tmp 5 rfl) (hF.tmp 9 rfl) rfl) rfl ?_; clear hF; intro a hF
    refine r_take 8 hF rfl rfl rfl (by kernel_rfl) (by kernel_rfl) (by kernel_rfl) (fun _ _ _ h => h) rfl hS (fun w hS => x_nil (hF.tmp 3 rfl)) rfl ?_; clear hF; intro a hF
    refine r_do 9 rfl (by kernel_rfl) rfl rfl ?_
    refine w_store 1 hH ty96 rfl (hF.tmp 11 rfl) (hF.tmp 10 rfl) rfl (one1 rfl rfl) (by first | decide | exact Nat.le_of_ble_eq_true rfl) ?_
    clear hH; intro w hH
    clear hS; have hS : SL _ _ := SL.of hH (sub_nil _); refine ⟨hS, ?_⟩
    refine r_end (by kernel_rfl) ?_; clear hS
    exact hJr1 _ _ _ (hF.bare.add hF 0 rfl) (hH.sub _ (sub_cons (sub_nil _) 1 rfl))

def lenTab : List Int := ([0, 1, 2, 2, 3, 3, 3, 3, 4, 4, 4, 4, 4, 4, 4, 4, 5, 5, 5, 5, 5, 5, 5, 5, 5, 5, 5, 5, 5, 5, 5, 5, 6, 6, 6, 6, 6, 6, 6, 6, 6, 6, 6, 6, 6, 6, 6, 6, 6, 6, 6, 6, 6, 6, 6, 6, 6, 6, 6, 6, 6, 6, 6, 6, 7, 7, 7, 7, 7, 7, 7, 7, 7, 7, 7, 7, 7, 7, 7, 7, 7, 7, 7, 7, 7, 7, 7, 7, 7, 7, 7, 7, 7, 7, 7, 7, 7, 7, 7, 7, 7, 7, 7, 7, 7, 7, 7, 7, 7, 7, 7, 7, 7, 7, 7, 7, 7, 7, 7, 7, 7, 7, 7, 7, 7, 7, 7, 7, 8, 8, 8, 8, 8, 8, 8, 8, 8, 8, 8, 8, 8, 8, 8, 8, 8, 8, 8, 8, 8, 8, 8, 8, 8, 8, 8, 8, 8, 8, 8, 8, 8, 8, 8, 8, 8, 8, 8, 8, 8, 8, 8, 8, 8, 8, 8, 8, 8, 8, 8, 8, 8, 8, 8, 8, 8, 8, 8, 8, 8, 8, 8, 8, 8, 8, 8, 8, 8, 8, 8, 8, 8, 8, 8, 8, 8, 8, 8, 8, 8, 8, 8, 8, 8, 8, 8, 8, 8, 8, 8, 8, 8, 8, 8, 8, 8, 8, 8, 8, 8, 8, 8, 8, 8, 8, 8, 8, 8, 8, 8, 8, 8, 8, 8, 8, 8, 8, 8, 8, 8, 8, 8, 8, 8, 8, 8, 8] : List Int)
theorem lenTab_byte : Byte lenTab := by unfold Byte lenTab; decide +kernel
theorem lenTab_len : lenTab.length = 256 := by decide +kernel
theorem lenTab_ok : ∀ x : Nat, x < 256 → (2 ^ (gi lenTab (x : Int)).toNat ≤ 2 * x ∨ x = 0 ∧ (gi lenTab (x : Int)).toNat = 0) ∧ x < 2 ^ (gi lenTab (x : Int)).toNat ∧ (gi lenTab (x : Int)).toNat ≤ 8 := by decide +kernel
set_option maxRecDepth 100000 in
set_option maxHeartbeats 1000000 in
theorem len64_calls (w0 : World) (n : Nat) (hn : n < 18446744073709551616) : Calls Try.prog 55 #[.int .u64 (n : Int)] w0 fun e w' => ∃ l : Nat, e = .returned (.int .i64 (l : Int)) ∧ (n < 2 ^ l ∧ (0 < n → 2 ^ l ≤ 2 * n)) ∧ l ≤ 400 ∧ Mods (fun _ => False) w0 w' := by
  refine calls_of_wp Try.func55 rfl ?_
  have hF := Fr.enter #[.int .u64 (n : Int)] 25 (slotsOf [.int .u64 (n : Int)] 0) (Nat.le_of_ble_eq_true rfl) (fun i v h => by have h2 := (get_slotsOf _ 0 i v h).2; simpa only [List.getElem?_toArray, Nat.sub_zero] using h2)
  have hH := Hp.nil (fun _ => False) w0
  rw [Try.ntmps55]
  revert hF; generalize (⟨(#[.int .u64 (n : Int)] : Array Value) ++ Array.replicate (25 - (#[.int .u64 (n : Int)] : Array Value).size) undef, []⟩ : Act) = a; intro hF
  refine wp_seq_k fun khK1 hK1 => ?_
  refine wp_region_lit ?_
  refine l_at hF rfl rfl rfl (x_assign rfl) ?_; clear hF; intro a hF
  refine wpList_nil ?_
  refine hK1 _ _ ?_
  refine wp_seq_k fun khK2 hK2 => ?_
  refine wp_seq_k fun khK3 hK3 => ?_
  refine wp_region_lit ?_
  refine l_at hF rfl rfl rfl (x_move (hF.tmp 0 rfl)) ?_; clear hF; intro a hF
  refine l_at hF rfl rfl rfl (x_geq (hF.tmp 3 rfl) rfl) ?_; clear hF; intro a hF
  refine wpList_nil ?_
  refine hK3 _ _ ?_
  have hJ4 : ∀ a w, ∀ x4 : Nat, ∀ s4 : Nat, (x4 < 4294967296) → (s4 ≤ 32) → (x4 * 2 ^ s4 ≤ n) → (n < (x4 + 1) * 2 ^ s4) → (n = 0 ∨ 0 < x4) → Fr 25 a [(0, .int .u64 (x4 : Int)), (2, .int .i64 (s4 : Int))] → Hp (fun _ => False) w0 w [] → khK2 a w := by
    intro a w x4 s4 hj4_0 hj4_1 hj4_2 hj4_3 hj4_4 hF hH
    refine hK2 a w ?_
    refine wp_seq_k fun khK4 hK4 => ?_
    refine wp_seq_k fun khK5 hK5 => ?_
    refine wp_region_lit ?_
    refine l_at hF rfl rfl rfl (x_move (hF.tmp 0 rfl)) ?_; clear hF; intro a hF
    refine l_at hF rfl rfl rfl (x_geq (hF.tmp 7 rfl) rfl) ?_; clear hF; intro a hF
    refine wpList_nil ?_
    refine hK5 _ _ ?_
    have hJ8 : ∀ a w, ∀ x8 : Nat, ∀ s8 : Nat, (x8 < 65536) → (s8 ≤ 48) → (x8 * 2 ^ s8 ≤ n) → (n < (x8 + 1) * 2 ^ s8) → (n = 0 ∨ 0 < x8) → Fr 25 a [(0, .int .u64 (x8 : Int)), (2, .int .i64 (s8 : Int))] → Hp (fun _ => False) w0 w [] → khK4 a w := by
      intro a w x8 s8 hj8_0 hj8_1 hj8_2 hj8_3 hj8_4 hF hH
      refine hK4 a w ?_
      refine wp_seq_k fun khK6 hK6 => ?_
      refine wp_seq_k fun khK7 hK7 => ?_
      refine wp_region_lit ?_
      refine l_at hF rfl rfl rfl (x_move (hF.tmp 0 rfl)) ?_; clear hF; intro a hF
      refine l_at hF rfl rfl rfl (x_geq (hF.tmp 13 rfl) rfl) ?_; clear hF; intro a hF
      refine wpList_nil ?_
      refine hK7 _ _ ?_
      have hJ14 : ∀ a w, ∀ x14 : Nat, ∀ s14 : Nat, (x14 < 256) → (s14 ≤ 56) → (x14 * 2 ^ s14 ≤ n) → (n < (x14 + 1) * 2 ^ s14) → (n = 0 ∨ 0 < x14) → Fr 25 a [(0, .int .u64 (x14 : Int)), (2, .int .i64 (s14 : Int))] → Hp (fun _ => False) w0 w [] → khK6 a w := by
        intro a w x14 s14 hj14_0 hj14_1 hj14_2 hj14_3 hj14_4 hF hH
        refine hK6 a w ?_
        refine wp_seq_k fun khK8 hK8 => ?_
        refine wp_region_lit ?_
        refine l_at hF rfl rfl rfl (x_move (hF.tmp 2 rfl)) ?_; clear hF; intro a hF
        refine l_at hF rfl rfl rfl (x_move (hF.tmp 0 rfl)) ?_; clear hF; intro a hF
        refine l_at hF rfl rfl rfl (x_conv Try.underlying5 ⟨_, Try.underlying95⟩ (hF.tmp 20 rfl) (wu8 (by omega) (by omega))) ?_; clear hF; intro a hF
        refine l_at hF rfl rfl rfl (x_idxS (xs := lenTab) Try.underlying9 (show _ = Value.string (strOfNums ([0, 1, 2, 2, 3, 3, 3, 3, 4, 4, 4, 4, 4, 4, 4, 4, 5, 5, 5, 5, 5, 5, 5, 5, 5, 5, 5, 5, 5, 5, 5, 5, 6, 6, 6, 6, 6, 6, 6, 6, 6, 6, 6, 6, 6, 6, 6, 6, 6, 6, 6, 6, 6, 6, 6, 6, 6, 6, 6, 6, 6, 6, 6, 6, 7, 7, 7, 7, 7, 7, 7, 7, 7, 7, 7, 7, 7, 7, 7, 7, 7, 7, 7, 7, 7, 7, 7, 7, 7, 7, 7, 7, 7, 7, 7, 7, 7, 7, 7, 7, 7, 7, 7, 7, 7, 7, 7, 7, 7, 7, 7, 7, 7, 7, 7, 7, 7, 7, 7, 7, 7, 7, 7, 7, 7, 7, 7, 7, 8, 8, 8, 8, 8, 8, 8, 8, 8, 8, 8, 8, 8, 8, 8, 8, 8, 8, 8, 8, 8, 8, 8, 8, 8, 8, 8, 8, 8, 8, 8, 8, 8, 8, 8, 8, 8, 8, 8, 8, 8, 8, 8, 8, 8, 8, 8, 8, 8, 8, 8, 8, 8, 8, 8, 8, 8, 8, 8, 8, 8, 8, 8, 8, 8, 8, 8, 8, 8, 8, 8, 8, 8, 8, 8, 8, 8, 8, 8, 8, 8, 8, 8, 8, 8, 8, 8, 8, 8, 8, 8, 8, 8, 8, 8, 8, 8, 8, 8, 8, 8, 8, 8, 8, 8, 8, 8, 8, 8, 8, 8, 8, 8, 8, 8, 8, 8, 8, 8, 8, 8, 8, 8, 8, 8, 8, 8, 8] : List Int)) by kernel_rfl) (hF.tmp 21 rfl) lenTab_byte (by omega) (by rw [lenTab_len]; omega)) ?_; clear hF; intro a hF
        have hlb := lenTab_byte.gi (x14 : Int)
        refine l_at hF rfl rfl rfl (x_conv Try.underlying3 ⟨_, Try.underlying5⟩ (hF.tmp 22 rfl) (w64 (by omega) (by omega))) ?_; clear hF; intro a hF
        refine l_at hF rfl rfl rfl (x_add (hF.tmp 19 rfl) (hF.tmp 23 rfl) (w64 (by omega) (by omega))) ?_; clear hF; intro a hF
        refine l_at hF rfl rfl rfl (x_assign (hF.tmp 24 rfl)) ?_; clear hF; intro a hF
        refine wpList_nil ?_
        refine hK8 _ _ ?_
        refine wp_ret ?_
        try simp only [Exit.then, Exit.inBlock]
        obtain ⟨ho1, ho2, ho3⟩ := lenTab_ok x14 (by omega)
        exact fin_ret hF (res1 hF rfl rfl) ⟨s14 + (gi lenTab (x14 : Int)).toNat, by congr 2; omega, len_fin hj14_2 hj14_3 ho1 ho2 hj14_4, by omega, hH.mods⟩
      refine wp_cond_split (hF.tmp 14 rfl) (fun hc14 => ?_) (fun hc14 => ?_)
      · have hk14_1 := hc14; try simp only [Bool.or_eq_true, Bool.and_eq_true, Bool.or_eq_false_iff, Bool.and_eq_false_iff, Bool.not_eq_true', Bool.not_eq_false', decide_eq_true_eq, decide_eq_false_iff_not, Bool.not_true, Bool.not_false] at hc14
        refine wp_seq_k fun khK9 hK9 => ?_
        refine wp_region_lit ?_
        refine l_at hF rfl rfl rfl (x_move (hF.tmp 0 rfl)) ?_; clear hF; intro a hF
        refine l_at hF rfl rfl rfl (x_shr (hF.tmp 15 rfl) rfl (by omega) (shq8 x8)) ?_; clear hF; intro a hF
        refine l_at hF rfl rfl rfl (x_assign (hF.tmp 16 rfl)) ?_; clear hF; intro a hF
        refine wpList_nil ?_
        refine hK9 _ _ ?_
        refine wp_region_lit ?_
        refine l_at hF rfl rfl rfl (x_move (hF.tmp 2 rfl)) ?_; clear hF; intro a hF
        refine l_at hF rfl rfl rfl (x_add (hF.tmp 17 rfl) rfl (show IntKind.i64.wrap _ = ((s8 + 8 : Nat) : Int) from by rw [w64 (by omega) (by omega)] <;> omega)) ?_; clear hF; intro a hF
        refine l_at hF rfl rfl rfl (x_assign (hF.tmp 18 rfl)) ?_; clear hF; intro a hF
        refine wpList_nil ?_
        exact hJ14 _ _ (x8 / 256) (s8 + 8) (by omega) (by omega) (len_lo 8 hj8_2) (len_hi 8 hj8_3) (by omega) ((hF.bare.add hF 2 rfl).add hF 0 rfl) (hH.sub _ (sub_nil _))
      · have hk14_2 := hc14; try simp only [Bool.or_eq_true, Bool.and_eq_true, Bool.or_eq_false_iff, Bool.and_eq_false_iff, Bool.not_eq_true', Bool.not_eq_false', decide_eq_true_eq, decide_eq_false_iff_not, Bool.not_true, Bool.not_false] at hc14
        refine wp_skip ?_
        exact hJ14 _ _ x8 s8 (by omega) (by omega) hj8_2 hj8_3 (by omega) ((hF.bare.add hF 2 rfl).add hF 0 rfl) (hH.sub _ (sub_nil _))
    refine wp_cond_split (hF.tmp 8 rfl) (fun hc8 => ?_) (fun hc8 => ?_)
    · have hk8_3 := hc8; try simp only [Bool.or_eq_true, Bool.and_eq_true, Bool.or_eq_false_iff, Bool.and_eq_false_iff, Bool.not_eq_true', Bool.not_eq_false', decide_eq_true_eq, decide_eq_false_iff_not, Bool.not_true, Bool.not_false] at hc8
      refine wp_seq_k fun khK10 hK10 => ?_
      refine wp_region_lit ?_
      refine l_at hF rfl rfl rfl (x_move (hF.tmp 0 rfl)) ?_; clear hF; intro a hF
      refine l_at hF rfl rfl rfl (x_shr (hF.tmp 9 rfl) rfl (by omega) (shq16 x4)) ?_; clear hF; intro a hF
      refine l_at hF rfl rfl rfl (x_assign (hF.tmp 10 rfl)) ?_; clear hF; intro a hF
      refine wpList_nil ?_
      refine hK10 _ _ ?_
      refine wp_region_lit ?_
      refine l_at hF rfl rfl rfl (x_move (hF.tmp 2 rfl)) ?_; clear hF; intro a hF
      refine l_at hF rfl rfl rfl (x_add (hF.tmp 11 rfl) rfl (show IntKind.i64.wrap _ = ((s4 + 16 : Nat) : Int) from by rw [w64 (by omega) (by omega)] <;> omega)) ?_; clear hF; intro a hF
      refine l_at hF rfl rfl rfl (x_assign (hF.tmp 12 rfl)) ?_; clear hF; intro a hF
      refine wpList_nil ?_
      exact hJ8 _ _ (x4 / 65536) (s4 + 16) (by omega) (by omega) (len_lo 16 hj4_2) (len_hi 16 hj4_3) (by omega) ((hF.bare.add hF 2 rfl).add hF 0 rfl) (hH.sub _ (sub_nil _))
    · have hk8_4 := hc8; try simp only [Bool.or_eq_true, Bool.and_eq_true, Bool.or_eq_false_iff, Bool.and_eq_false_iff, Bool.not_eq_true', Bool.not_eq_false', decide_eq_true_eq, decide_eq_false_iff_not, Bool.not_true, Bool.not_false] at hc8
      refine wp_skip ?_
      exact hJ8 _ _ x4 s4 (by omega) (by omega) hj4_2 hj4_3 (by omega) ((hF.bare.add hF 2 rfl).add hF 0 rfl) (hH.sub _ (sub_nil _))
  refine wp_cond_split (hF.tmp 4 rfl) (fun hc4 => ?_) (fun hc4 => ?_)
  · have hk4_5 := hc4; try simp only [Bool.or_eq_true, Bool.and_eq_true, Bool.or_eq_false_iff, Bool.and_eq_false_iff, Bool.not_eq_true', Bool.not_eq_false', decide_eq_true_eq, decide_eq_false_iff_not, Bool.not_true, Bool.not_false] at hc4
    refine wp_seq_k fun khK11 hK11 => ?_
    refine wp_region_lit ?_
    refine l_at hF rfl rfl rfl (x_move (hF.tmp 0 rfl)) ?_; clear hF; intro a hF
    refine l_at hF rfl rfl rfl (x_shr (hF.tmp 5 rfl) rfl (by omega) (shq32 n)) ?_; clear hF; intro a hF
    refine l_at hF rfl rfl rfl (x_assign (hF.tmp 6 rfl)) ?_; clear hF; intro a hF
    refine wpList_nil ?_
    refine hK11 _ _ ?_
    refine wp_region_lit ?_
    refine l_at hF rfl rfl rfl (x_assign rfl) ?_; clear hF; intro a hF
    refine wpList_nil ?_
    exact hJ4 _ _ (n / 4294967296) 32 (by omega) (by omega) (by omega) (by omega) (by omega) ((hF.bare.add hF 2 rfl).add hF 0 rfl) (hH.sub _ (sub_nil _))
  · have hk4_6 := hc4; try simp only [Bool.or_eq_true, Bool.and_eq_true, Bool.or_eq_false_iff, Bool.and_eq_false_iff, Bool.not_eq_true', Bool.not_eq_false', decide_eq_true_eq, decide_eq_false_iff_not, Bool.not_true, Bool.not_false] at hc4
    refine wp_skip ?_
    exact hJ4 _ _ n 0 (by omega) (by omega) (by omega) (by omega) (by omega) ((hF.bare.add hF 2 rfl).add hF 0 rfl) (hH.sub _ (sub_nil _))

set_option maxRecDepth 100000 in
set_option maxHeartbeats 1000000 in
theorem blen_calls (w0 : World) (n : Nat) (hn : n < 18446744073709551616) : Calls Try.prog 44 #[.int .u64 (n : Int)] w0 fun e w' => ∃ l : Nat, e = .returned (.int .i64 (l : Int)) ∧ (n < 2 ^ l ∧ (0 < n → 2 ^ l ≤ 2 * n)) ∧ l ≤ 400 ∧ Mods (fun _ => False) w0 w' := by
  refine calls_of_wp Try.func44 rfl ?_
  have hF := Fr.enter #[.int .u64 (n : Int)] 8 (slotsOf [.int .u64 (n : Int)] 0) (Nat.le_of_ble_eq_true rfl) (fun i v h => by have h2 := (get_slotsOf _ 0 i v h).2; simpa only [List.getElem?_toArray, Nat.sub_zero] using h2)
  have hH := Hp.nil (fun _ => False) w0
  rw [Try.ntmps44]
  revert hF; generalize (⟨(#[.int .u64 (n : Int)] : Array Value) ++ Array.replicate (8 - (#[.int .u64 (n : Int)] : Array Value).size) undef, []⟩ : Act) = a; intro hF
  refine wp_seq_k fun khK1 hK1 => ?_
  refine wp_region_lit ?_
  refine l_at hF rfl rfl rfl (x_assign rfl) ?_; clear hF; intro a hF
  refine wpList_nil ?_
  refine hK1 _ _ ?_
  refine wp_seq_k fun khK2 hK2 => ?_
  refine wp_cond_false rfl ?_
  refine wp_skip ?_
  refine hK2 _ _ ?_
  refine wp_seq_k fun khK3 hK3 => ?_
  refine wp_region_lit ?_
  refine l_at hF rfl rfl rfl (x_move (hF.tmp 0 rfl)) ?_; clear hF; intro a hF
  refine wpList_plain rfl fun K hK => ?_
  refine w_call hF (x_enter Try.func55 (by kernel_rfl) rfl (by simp only [List.map_toArray, List.map_cons, List.map_nil, hF.tmp 6 rfl] <;> rfl)) (len64_calls _ n hn) rfl rfl ?_
  rintro _ w ⟨l, rfl, hl3, hl4, hm_⟩; refine ⟨_, rfl, ?_⟩; clear hF; intro a hF; have hH := hH.same hm_
  refine hK _ _ ?_; clear hK K
  refine l_at hF rfl rfl rfl (x_assign (hF.tmp 7 rfl)) ?_; clear hF; intro a hF
  refine wpList_nil ?_
  refine hK3 _ _ ?_
  refine wp_ret ?_
  try simp only [Exit.then, Exit.inBlock]
  exact fin_ret hF (res1 hF rfl rfl) ⟨l, rfl, hl3, hl4, hH.mods⟩

set_option maxRecDepth 100000 in
set_option maxHeartbeats 1000000 in
theorem npow_calls (w0 : World) {n : Nat} (hn0 : 0 < n) (hn : n < 1000000000) : Calls Try.prog 57 #[.int .i64 (n : Int)] w0 fun e w' => ∃ m : Nat, e = .returned (.int .u64 (m : Int)) ∧ n < m ∧ m ≤ 2 * n ∧ Mods (fun _ => False) w0 w' := by
  refine calls_of_wp Try.func57 rfl ?_
  have hF := Fr.enter #[.int .i64 (n : Int)] 7 (slotsOf [.int .i64 (n : Int)] 0) (Nat.le_of_ble_eq_true rfl) (fun i v h => by have h2 := (get_slotsOf _ 0 i v h).2; simpa only [List.getElem?_toArray, Nat.sub_zero] using h2)
  have hH := Hp.nil (fun _ => False) w0
  rw [Try.ntmps57]
  revert hF; generalize (⟨(#[.int .i64 (n : Int)] : Array Value) ++ Array.replicate (7 - (#[.int .i64 (n : Int)] : Array Value).size) undef, []⟩ : Act) = a; intro hF
  refine wp_seq_k fun khK1 hK1 => ?_
  refine wp_region_lit ?_
  refine l_at hF rfl rfl rfl (x_assign rfl) ?_; clear hF; intro a hF
  refine wpList_nil ?_
  refine hK1 _ _ ?_
  refine wp_seq_k fun khK2 hK2 => ?_
  refine wp_region_lit ?_
  refine l_at hF rfl rfl rfl (x_move (hF.tmp 0 rfl)) ?_; clear hF; intro a hF
  refine l_at hF rfl rfl rfl (x_conv Try.underlying82 ⟨_, Try.underlying3⟩ (hF.tmp 3 rfl) (wu64 (by omega) (by omega))) ?_; clear hF; intro a hF
  refine wpList_plain rfl fun K hK => ?_
  refine w_call hF (x_enter Try.func44 (by kernel_rfl) rfl (by simp only [List.map_toArray, List.map_cons, List.map_nil, hF.tmp 4 rfl] <;> rfl)) (blen_calls _ n (by omega)) rfl rfl ?_
  rintro _ w ⟨l, rfl, hl3, hl4, hm_⟩; refine ⟨_, rfl, ?_⟩; clear hF; intro a hF; have hH := hH.same hm_
  refine hK _ _ ?_; clear hK K
  refine l_at hF rfl rfl rfl (x_shl rfl (hF.tmp 5 rfl) (by omega) (shl1 hl3 hn0 hn)) ?_; clear hF; intro a hF
  refine l_at hF rfl rfl rfl (x_assign (hF.tmp 6 rfl)) ?_; clear hF; intro a hF
  refine wpList_nil ?_
  refine hK2 _ _ ?_
  refine wp_ret ?_
  try simp only [Exit.then, Exit.inBlock]
  exact fin_ret hF (res1 hF rfl rfl) ⟨2 ^ l, rfl, hl3.1, hl3.2 hn0, hH.mods⟩

set_option maxRecDepth 100000 in
set_option maxHeartbeats 1000000 in
theorem brk_calls (w0 : World) {v : Value} {d : Array Int} (h : Row RB 5 w0 (fun _ => False) v d.toList) {la lb : Nat} (hab : la ≤ lb) (hb : lb ≤ d.size) (hsz : d.size < 1000000000) : Calls Try.prog 47 #[v, .int .i64 (la : Int), .int .i64 (lb : Int)] w0 fun e w' => ∃ d' : Array Int, e = .returned (.tuple #[]) ∧ Mods (fun k => v.ownBlock = some k) w0 w' ∧ Row RB 5 w' (fun _ => False) v d'.toList ∧ PermIn la lb d d' := by
  refine calls_of_wp Try.func47 rfl ?_
  have hF := Fr.enter #[v, .int .i64 (la : Int), .int .i64 (lb : Int)] 65 (slotsOf [v, .int .i64 (la : Int), .int .i64 (lb : Int)] 0) (Nat.le_of_ble_eq_true rfl) (fun i v h => by have h2 := (get_slotsOf _ 0 i v h).2; simpa only [List.getElem?_toArray, Nat.sub_zero] using h2)
  rw [Try.ntmps47]
  revert hF; generalize (⟨(#[v, .int .i64 (la : Int), .int .i64 (lb : Int)] : Array Value) ++ Array.replicate (65 - (#[v, .int .i64 (la : Int), .int .i64 (lb : Int)] : Array Value).size) undef, []⟩ : Act) = a; intro hF
  have hH := Hp.ownrow 900 h (fun _ h => h.elim) (fun _ _ h => h)
  have hdl : d.toList.length = d.size := by simp
  refine wp_seq_k fun khK1 hK1 => ?_
  refine wp_region_lit ?_
  refine l_at hF rfl rfl rfl (x_move (hF.tmp 2 rfl)) ?_; clear hF; intro a hF
  refine l_at hF rfl rfl rfl (x_move (hF.tmp 1 rfl)) ?_; clear hF; intro a hF
  refine l_at hF rfl rfl rfl (x_sub (hF.tmp 11 rfl) (hF.tmp 12 rfl) (show IntKind.i64.wrap _ = ((lb - la : Nat) : Int) from by rw [w64 (by omega) (by omega)] <;> omega)) ?_; clear hF; intro a hF
  refine l_at hF rfl rfl rfl (x_assign (hF.tmp 13 rfl)) ?_; clear hF; intro a hF
  refine wpList_nil ?_
  refine hK1 _ _ ?_
  refine wp_seq_k fun khK2 hK2 => ?_
  refine wp_region_lit ?_
  refine l_at hF rfl rfl rfl (x_move (hF.tmp 6 rfl)) ?_; clear hF; intro a hF
  refine l_at hF rfl rfl rfl (x_geq (hF.tmp 14 rfl) rfl) ?_; clear hF; intro a hF
  refine wpList_nil ?_
  refine hK2 _ _ ?_
  refine wp_cond_split (hF.tmp 15 rfl) (fun hc15 => ?_) (fun hc15 => ?_)
  · have hk15_1 := hc15; try simp only [Bool.or_eq_true, Bool.and_eq_true, Bool.or_eq_false_iff, Bool.and_eq_false_iff, Bool.not_eq_true', Bool.not_eq_false', decide_eq_true_eq, decide_eq_false_iff_not, Bool.not_true, Bool.not_false] at hc15
    refine wp_seq_k fun khK3 hK3 => ?_
    refine wp_region_lit ?_
    refine l_at hF rfl rfl rfl (x_move (hF.tmp 6 rfl)) ?_; clear hF; intro a hF
    refine l_at hF rfl rfl rfl (x_conv Try.underlying96 ⟨_, Try.underlying3⟩ (hF.tmp 16 rfl) (wu64 (by omega) (by omega))) ?_; clear hF; intro a hF
    refine wpList_plain rfl fun K hK => ?_
    refine w_alloc 1 hF hH rfl ty96 ?_
    clear hF hH; intro a w b7 hF hH
    refine hK _ _ ?_; clear hK K
    refine wpList_plain rfl fun K hK => ?_
    refine w_store 1 hH ty96 rfl (hF.tmp 7 rfl) (hF.tmp 17 rfl) rfl (one1 rfl rfl) (by first | decide | exact Nat.le_of_ble_eq_true rfl) ?_
    clear hH; intro w hH
    refine hK _ _ ?_; clear hK K
    refine wpList_nil ?_
    refine hK3 _ _ ?_
    refine wp_seq_k fun khK4 hK4 => ?_
    refine wp_region_lit ?_
    refine l_at hF rfl rfl rfl (x_move (hF.tmp 6 rfl)) ?_; clear hF; intro a hF
    refine wpList_plain rfl fun K hK => ?_
    refine w_call hF (x_enter Try.func57 (by kernel_rfl) rfl (by simp only [List.map_toArray, List.map_cons, List.map_nil, hF.tmp 18 rfl] <;> rfl)) (npow_calls _ (n := lb - la) (by omega) (by omega)) rfl rfl ?_
    rintro _ w ⟨pm, rfl, hp1, hp2, hm_⟩; refine ⟨_, rfl, ?_⟩; clear hF; intro a hF; have hH := hH.same hm_
    refine hK _ _ ?_; clear hK K
    refine l_at hF rfl rfl rfl (x_assign (hF.tmp 19 rfl)) ?_; clear hF; intro a hF
    refine wpList_nil ?_
    refine hK4 _ _ ?_
    refine wp_seq_k fun khK5 hK5 => ?_
    refine wp_region_lit ?_
    refine l_at hF rfl rfl rfl (x_move (hF.tmp 1 rfl)) ?_; clear hF; intro a hF
    refine l_at hF rfl rfl rfl (x_move (hF.tmp 6 rfl)) ?_; clear hF; intro a hF
    refine l_at hF rfl rfl rfl (x_quo (hF.tmp 21 rfl) rfl (by omega) (show IntKind.i64.wrap _ = (((lb - la) / 4 : Nat) : Int) from quoN (lb - la) 4 (by decide) (by omega) (by decide))) ?_; clear hF; intro a hF
    refine l_at hF rfl rfl rfl (x_mul (hF.tmp 22 rfl) rfl (show IntKind.i64.wrap _ = ((((lb - la) / 4) * 2 : Nat) : Int) from by rw [w64 (by omega) (by omega)] <;> omega)) ?_; clear hF; intro a hF
    refine l_at hF rfl rfl rfl (x_add (hF.tmp 20 rfl) (hF.tmp 23 rfl) (show IntKind.i64.wrap _ = ((la + (((lb - la) / 4) * 2) : Nat) : Int) from by rw [w64 (by omega) (by omega)] <;> omega)) ?_; clear hF; intro a hF
    refine l_at hF rfl rfl rfl (x_sub (hF.tmp 24 rfl) rfl (show IntKind.i64.wrap _ = (((la + (((lb - la) / 4) * 2)) - 1 : Nat) : Int) from by rw [w64 (by omega) (by omega)] <;> omega)) ?_; clear hF; intro a hF
    refine l_at hF rfl rfl rfl (x_assign (hF.tmp 25 rfl)) ?_; clear hF; intro a hF
    refine wpList_nil ?_
    refine hK5 _ _ ?_
    refine wp_block ?_
    refine wp_loop_ghost (fun n_ a w => ∃ ix : Nat, ∃ dk : Array Int, ∃ su : Int, n_ = la + (lb - la) / 4 * 2 + 2 - ix ∧ (la ≤ ix) ∧ (ix ≤ la + (lb - la) / 4 * 2 + 2) ∧ (dk.size = d.size) ∧ (PermIn la lb d dk) ∧ Fr 65 a [(0, v), (1, .int .i64 (la : Int)), (6, .int .i64 ((lb - la : Nat) : Int)), (7, .pointer (some ⟨b7, 0, none⟩)), (8, .int .u64 (pm : Int)), (9, .int .i64 (ix : Int))] ∧ Hp (fun k => v.ownBlock = some k) w0 w [(900, .row RB 5 v dk.toList (fun _ => False)), (1, .blk b7 (.cells #[.int .u64 su] 96 (0, 0)))]) (la + (lb - la) / 4 * 2 + 2 - (la + (lb - la) / 4 * 2 - 1)) ?_ ?_
    · exact ⟨la + (lb - la) / 4 * 2 - 1, d, _, rfl, by omega, by omega, rfl, permIn_refl _ _ _, ((((((hF.bare.add hF 9 rfl).add hF 8 rfl).add hF 7 rfl).add hF 6 rfl).add hF 1 rfl).add hF 0 rfl), hH.sub _ (sub_cons (sub_cons (sub_nil _) 1 rfl) 900 rfl)⟩
    · rintro _ a w ⟨ix, dk, su, rfl, hq0_0, hq0_1, hq0_2, hq0_3, hF, hH⟩
      have hl_dk : dk.toList.length = d.size := by simp only [Array.length_toList]; omega
      refine wp_seq_k fun khK6 hK6 => ?_
      refine wp_seq_k fun khK7 hK7 => ?_
      refine wp_region_lit ?_
      refine l_at hF rfl rfl rfl (x_move (hF.tmp 9 rfl)) ?_; clear hF; intro a hF
      refine l_at hF rfl rfl rfl (x_move (hF.tmp 1 rfl)) ?_; clear hF; intro a hF
      refine l_at hF rfl rfl rfl (x_move (hF.tmp 6 rfl)) ?_; clear hF; intro a hF
      refine l_at hF rfl rfl rfl (x_quo (hF.tmp 28 rfl) rfl (by omega) (show IntKind.i64.wrap _ = (((lb - la) / 4 : Nat) : Int) from quoN (lb - la) 4 (by decide) (by omega) (by decide))) ?_; clear hF; intro a hF
      refine l_at hF rfl rfl rfl (x_mul (hF.tmp 29 rfl) rfl (show IntKind.i64.wrap _ = ((((lb - la) / 4) * 2 : Nat) : Int) from by rw [w64 (by omega) (by omega)] <;> omega)) ?_; clear hF; intro a hF
      refine l_at hF rfl rfl rfl (x_add (hF.tmp 27 rfl) (hF.tmp 30 rfl) (show IntKind.i64.wrap _ = ((la + (((lb - la) / 4) * 2) : Nat) : Int) from by rw [w64 (by omega) (by omega)] <;> omega)) ?_; clear hF; intro a hF
      refine l_at hF rfl rfl rfl (x_add (hF.tmp 31 rfl) rfl (show IntKind.i64.wrap _ = (((la + (((lb - la) / 4) * 2)) + 1 : Nat) : Int) from by rw [w64 (by omega) (by omega)] <;> omega)) ?_; clear hF; intro a hF
      refine l_at hF rfl rfl rfl (x_leq (hF.tmp 26 rfl) (hF.tmp 32 rfl)) ?_; clear hF; intro a hF
      refine wpList_nil ?_
      refine hK7 _ _ ?_
      refine wp_cond_split (hF.tmp 33 rfl) (fun hc33 => ?_) (fun hc33 => ?_)
      · have hk33_2 := hc33; try simp only [Bool.or_eq_true, Bool.and_eq_true, Bool.or_eq_false_iff, Bool.and_eq_false_iff, Bool.not_eq_true', Bool.not_eq_false', decide_eq_true_eq, decide_eq_false_iff_not, Bool.not_true, Bool.not_false] at hc33
        refine wp_skip ?_
        refine hK6 _ _ ?_
        refine wp_seq_k fun khK8 hK8 => ?_
        refine wp_block ?_
        refine wp_seq_k fun khK9 hK9 => ?_
        refine wp_region_lit ?_
        refine wpList_plain rfl fun K hK => ?_
        refine w_call hF (x_enter Try.func58 (by kernel_rfl) rfl (by simp only [List.map_toArray, List.map_cons, List.map_nil, hF.tmp 7 rfl] <;> rfl)) (next_calls _ (hH.at 1 rfl)) rfl rfl ?_
        rintro _ w ⟨sr, rfl, hm_, hb_⟩; refine ⟨_, rfl, ?_⟩; clear hF; intro a hF; have hH := hH.put 1 rfl _ hm_ hb_
        refine hK _ _ ?_; clear hK K
        refine l_at hF rfl rfl rfl (x_move (hF.tmp 8 rfl)) ?_; clear hF; intro a hF
        refine l_at hF rfl rfl rfl (x_sub (hF.tmp 37 rfl) rfl (wu64 (by omega) (by omega))) ?_; clear hF; intro a hF
        have hand := and_le sr ((pm : Int) - 1) (by omega) (by omega)
        obtain ⟨ot, hot⟩ := Int.eq_ofNat_of_zero_le hand.1
        refine l_at hF rfl rfl rfl (x_bits (by simp) (hF.tmp 36 rfl) (hF.tmp 38 rfl) hot) ?_; clear hF; intro a hF
        refine l_at hF rfl rfl rfl (x_conv Try.underlying3 ⟨_, Try.underlying82⟩ (hF.tmp 39 rfl) (w64 (by omega) (by omega))) ?_; clear hF; intro a hF
        refine l_at hF rfl rfl rfl (x_assign (hF.tmp 40 rfl)) ?_; clear hF; intro a hF
        refine wpList_nil ?_
        refine hK9 _ _ ?_
        refine wp_seq_k fun khK10 hK10 => ?_
        refine wp_seq_k fun khK11 hK11 => ?_
        refine wp_region_lit ?_
        refine l_at hF rfl rfl rfl (x_move (hF.tmp 10 rfl)) ?_; clear hF; intro a hF
        refine l_at hF rfl rfl rfl (x_move (hF.tmp 6 rfl)) ?_; clear hF; intro a hF
        refine l_at hF rfl rfl rfl (x_geq (hF.tmp 41 rfl) (hF.tmp 42 rfl)) ?_; clear hF; intro a hF
        refine wpList_nil ?_
        refine hK11 _ _ ?_
        have hJ43 : ∀ a w, ∀ ot2 : Nat, (ot2 < lb - la) → Fr 65 a [(0, v), (1, .int .i64 (la : Int)), (6, .int .i64 ((lb - la : Nat) : Int)), (7, .pointer (some ⟨b7, 0, none⟩)), (8, .int .u64 (pm : Int)), (9, .int .i64 (ix : Int)), (10, .int .i64 (ot2 : Int))] → Hp (fun k => v.ownBlock = some k) w0 w [(900, .row RB 5 v dk.toList (fun _ => False)), (1, .blk b7 (.cells #[.int .u64 sr] 96 (0, 0)))] → khK10 a w := by
          intro a w ot2 hj43_0 hF hH
          refine hK10 a w ?_
          refine wp_norm_k fun khK12 hK12 => ?_
          have hJr10 : ∀ a w, Fr 65 a [(0, v), (1, .int .i64 (la : Int)), (6, .int .i64 ((lb - la : Nat) : Int)), (7, .pointer (some ⟨b7, 0, none⟩)), (8, .int .u64 (pm : Int)), (9, .int .i64 (ix : Int))] → Hp (fun k => v.ownBlock = some k) w0 w [(900, .row RB 5 v (swp dk ix (la + ot2)).toList (fun _ => False)), (1, .blk b7 (.cells #[.int .u64 sr] 96 (0, 0)))] → khK12 a w := by
            intro a w  hF hH
            refine hK12 a w ?_
            refine hK8 _ _ ?_
            refine wp_region_lit ?_
            refine l_at hF rfl rfl rfl (x_move (hF.tmp 9 rfl)) ?_; clear hF; intro a hF
            refine l_at hF rfl rfl rfl (x_add (hF.tmp 34 rfl) rfl (show IntKind.i64.wrap _ = ((ix + 1 : Nat) : Int) from by rw [w64 (by omega) (by omega)] <;> omega)) ?_; clear hF; intro a hF
            refine l_at hF rfl rfl rfl (x_assign (hF.tmp 35 rfl)) ?_; clear hF; intro a hF
            refine wpList_nil ?_
            exact ⟨_, by omega, ⟨ix + 1, (swp dk ix (la + ot2)), _, rfl, by omega, by omega, (by rw [swp_size]; exact hq0_2), permIn_trans _ _ _ _ _ hq0_3 (swp_permIn _ _ _ _ _ (by omega) (by omega) (by omega) (by omega) (by omega)), ((((((hF.bare.add hF 9 rfl).add hF 8 rfl).add hF 7 rfl).add hF 6 rfl).add hF 1 rfl).add hF 0 rfl), hH.sub _ (sub_cons (sub_cons (sub_nil _) 1 rfl) 900 rfl)⟩⟩
          refine r_start [] (by kernel_rfl) hH fun hH => ?_
          have hS : SL [] _ := SL.of hH (sub_nil _)
          refine r_take 0 hF rfl rfl rfl (by kernel_rfl) (by kernel_rfl) (by kernel_rfl) (fun _ _ _ h => h) rfl hS (fun w hS => x_move (hF.tmp 0 rfl)) rfl ?_; clear hF; intro a hF
          refine r_take 1 hF rfl rfl rfl (by kernel_rfl) (by kernel_rfl) (by kernel_rfl) (fun _ _ _ h => h) rfl hS (fun w hS => x_move (hF.tmp 9 rfl)) rfl ?_; clear hF; intro a hF
          refine r_take 2 hF rfl rfl rfl (by kernel_rfl) (by kernel_rfl) (by kernel_rfl) (fun _ _ _ h => h) rfl hS (fun w hS => x_move (hF.tmp 0 rfl)) rfl ?_; clear hF; intro a hF
          refine r_take 3 hF rfl rfl rfl (by kernel_rfl) (by kernel_rfl) (by kernel_rfl) (fun _ _ _ h => h) rfl hS (fun w hS => x_move (hF.tmp 1 rfl)) rfl ?_; clear hF; intro a hF
          refine r_take 4 hF rfl rfl rfl (by kernel_rfl) (by kernel_rfl) (by kernel_rfl) (fun _ _ _ h => h) rfl hS (fun w hS => x_move (hF.tmp 10 rfl)) rfl ?_; clear hF; intro a hF
          refine r_take 5 hF rfl rfl rfl (by kernel_rfl) (by kernel_rfl) (by kernel_rfl) (fun _ _ _ h => h) rfl hS (fun w hS => x_add (hF.tmp 50 rfl) (hF.tmp 51 rfl) (show IntKind.i64.wrap _ = ((la + ot2 : Nat) : Int) from by rw [w64 (by omega) (by omega)] <;> omega)) rfl ?_; clear hF; intro a hF
          refine r_take 6 hF rfl rfl rfl (by kernel_rfl) (by kernel_rfl) (by kernel_rfl) (fun _ _ _ h => h) rfl hS (fun w hS => x_move (hF.tmp 0 rfl)) rfl ?_; clear hF; intro a hF
          refine r_take 7 hF rfl rfl rfl (by kernel_rfl) (by kernel_rfl) (by kernel_rfl) (fun _ _ _ h => h) rfl hS (fun w hS => x_move (hF.tmp 1 rfl)) rfl ?_; clear hF; intro a hF
          refine r_take 8 hF rfl rfl rfl (by kernel_rfl) (by kernel_rfl) (by kernel_rfl) (fun _ _ _ h => h) rfl hS (fun w hS => x_move (hF.tmp 10 rfl)) rfl ?_; clear hF; intro a hF
          refine r_take 9 hF rfl rfl rfl (by kernel_rfl) (by kernel_rfl) (by kernel_rfl) (fun _ _ _ h => h) rfl hS (fun w hS => x_add (hF.tmp 54 rfl) (hF.tmp 55 rfl) (show IntKind.i64.wrap _ = ((la + ot2 : Nat) : Int) from by rw [w64 (by omega) (by omega)] <;> omega)) rfl ?_; clear hF; intro a hF
          refine r_take 10 hF rfl rfl rfl (by kernel_rfl) (by kernel_rfl) (by kernel_rfl) (fun _ _ _ h => h) rfl hS (fun w hS => x_iaddrV Try.underlying72 ty5 (hH.row 900 rfl) (hF.tmp 53 rfl) (hF.tmp 56 rfl) (by omega) (by omega) _) rfl ?_; clear hF; intro a hF
          refine r_take 12 hF rfl rfl rfl (by kernel_rfl) (by kernel_rfl) (by kernel_rfl) (fun _ _ _ h => h) rfl hS (fun w hS => x_move (hF.tmp 0 rfl)) rfl ?_; clear hF; intro a hF
          refine r_take 13 hF rfl rfl rfl (by kernel_rfl) (by kernel_rfl) (by kernel_rfl) (fun _ _ _ h => h) rfl hS (fun w hS => x_move (hF.tmp 9 rfl)) rfl ?_; clear hF; intro a hF
          refine r_take 14 hF rfl rfl rfl (by kernel_rfl) (by kernel_rfl) (by kernel_rfl) (fun _ _ _ h => h) rfl hS (fun w hS => x_iaddrV Try.underlying72 ty5 (hH.row 900 rfl) (hF.tmp 59 rfl) (hF.tmp 60 rfl) (by omega) (by omega) _) rfl ?_; clear hF; intro a hF
          refine r_do2 11 15 rfl rfl (by kernel_rfl) rfl rfl rfl rfl ?_ ?_
          ·
            refine w_at hF (x_load1 ty5 (hF.tmp 57 rfl) ((Row.rdV (hH.row 900 rfl)).cellA (gi_some (xs := dk.toList) (i := ((la + ot2 : Nat) : Int)) (by omega) (by omega)))) rfl rfl ?_
            clear hF; intro a hF
            clear hS; have hS : SL _ _ := SL.of hH (sub_nil _); refine ⟨hS, ?_⟩
            refine r_do 15 rfl (by kernel_rfl) rfl rfl ?_
            refine w_at hF (x_load1 ty5 (hF.tmp 61 rfl) ((Row.rdV (hH.row 900 rfl)).cellA (gi_some (xs := dk.toList) (i := (ix : Int)) (by omega) (by omega)))) rfl rfl ?_
            clear hF; intro a hF
            clear hS; have hS : SL _ _ := SL.of hH (sub_nil _); refine ⟨hS, ?_⟩
            refine r_take 16 hF rfl rfl rfl (by kernel_rfl) (by kernel_rfl) (by kernel_rfl) (fun _ _ _ h => h) rfl hS (fun w hS => x_iaddrV Try.underlying72 ty5 (hH.row 900 rfl) (hF.tmp 47 rfl) (hF.tmp 48 rfl) (by omega) (by omega) _) rfl ?_; clear hF; intro a hF
            refine r_do 17 rfl (by kernel_rfl) rfl rfl ?_
            refine w_setV (xs := dk.toList) 900 ix (gi dk.toList (((la + ot2) : Nat) : Int)) hH ty5 rfl (by first | omega | (simp only [List.length_set]; omega)) (hF.tmp 63 rfl) (hF.tmp 58 rfl) ?_
            clear hH; intro w hH
            clear hS; have hS : SL _ _ := SL.of hH (sub_nil _); refine ⟨hS, ?_⟩
            refine r_take 18 hF rfl rfl rfl (by kernel_rfl) (by kernel_rfl) (by kernel_rfl) (fun _ _ _ h => h) rfl hS (fun w hS => x_iaddrV Try.underlying72 ty5 (hH.row 900 rfl) (hF.tmp 49 rfl) (hF.tmp 52 rfl) (by omega) (by first | omega | (simp only [List.length_set]; omega)) _) rfl ?_; clear hF; intro a hF
            refine r_do 19 rfl (by kernel_rfl) rfl rfl ?_
            refine w_setV (xs := (dk.toList.set ix (gi dk.toList (((la + ot2) : Nat) : Int)))) 900 (la + ot2) (gi dk.toList ((ix : Nat) : Int)) hH ty5 rfl (by first | omega | (simp only [List.length_set]; omega)) (hF.tmp 64 rfl) (hF.tmp 62 rfl) ?_
            clear hH; intro w hH
            clear hS; have hS : SL _ _ := SL.of hH (sub_nil _); refine ⟨hS, ?_⟩
            have hH := hH.relab 900 (Y := .row RB 5 v (swp dk ix (la + ot2)).toList (fun _ => False)) rfl (by rw [swp_list])
            refine r_end (by kernel_rfl) ?_; clear hS
            exact hJr10 _ _  ((((((hF.bare.add hF 9 rfl).add hF 8 rfl).add hF 7 rfl).add hF 6 rfl).add hF 1 rfl).add hF 0 rfl) (hH.sub _ (sub_cons (sub_cons (sub_nil _) 1 rfl) 900 rfl))
          ·
            refine w_at hF (x_load1 ty5 (hF.tmp 61 rfl) ((Row.rdV (hH.row 900 rfl)).cellA (gi_some (xs := dk.toList) (i := (ix : Int)) (by omega) (by omega)))) rfl rfl ?_
            clear hF; intro a hF
            clear hS; have hS : SL _ _ := SL.of hH (sub_nil _); refine ⟨hS, ?_⟩
            refine r_do 11 rfl (by kernel_rfl) rfl rfl ?_
            refine w_at hF (x_load1 ty5 (hF.tmp 57 rfl) ((Row.rdV (hH.row 900 rfl)).cellA (gi_some (xs := dk.toList) (i := ((la + ot2 : Nat) : Int)) (by omega) (by omega)))) rfl rfl ?_
            clear hF; intro a hF
            clear hS; have hS : SL _ _ := SL.of hH (sub_nil _); refine ⟨hS, ?_⟩
            refine r_take 16 hF rfl rfl rfl (by kernel_rfl) (by kernel_rfl) (by kernel_rfl) (fun _ _ _ h => h) rfl hS (fun w hS => x_iaddrV Try.underlying72 ty5 (hH.row 900 rfl) (hF.tmp 47 rfl) (hF.tmp 48 rfl) (by omega) (by omega) _) rfl ?_; clear hF; intro a hF
            refine r_do 17 rfl (by kernel_rfl) rfl rfl ?_
            refine w_setV (xs := dk.toList) 900 ix (gi dk.toList (((la + ot2) : Nat) : Int)) hH ty5 rfl (by first | omega | (simp only [List.length_set]; omega)) (hF.tmp 63 rfl) (hF.tmp 58 rfl) ?_
            clear hH; intro w hH
            clear hS; have hS : SL _ _ := SL.of hH (sub_nil _); refine ⟨hS, ?_⟩
            refine r_take 18 hF rfl rfl rfl (by kernel_rfl) (by kernel_rfl) (by kernel_rfl) (fun _ _ _ h => h) rfl hS (fun w hS => x_iaddrV Try.underlying72 ty5 (hH.row 900 rfl) (hF.tmp 49 rfl) (hF.tmp 52 rfl) (by omega) (by first | omega | (simp only [List.length_set]; omega)) _) rfl ?_; clear hF; intro a hF
            refine r_do 19 rfl (by kernel_rfl) rfl rfl ?_
            refine w_setV (xs := (dk.toList.set ix (gi dk.toList (((la + ot2) : Nat) : Int)))) 900 (la + ot2) (gi dk.toList ((ix : Nat) : Int)) hH ty5 rfl (by first | omega | (simp only [List.length_set]; omega)) (hF.tmp 64 rfl) (hF.tmp 62 rfl) ?_
            clear hH; intro w hH
            clear hS; have hS : SL _ _ := SL.of hH (sub_nil _); refine ⟨hS, ?_⟩
            have hH := hH.relab 900 (Y := .row RB 5 v (swp dk ix (la + ot2)).toList (fun _ => False)) rfl (by rw [swp_list])
            refine r_end (by kernel_rfl) ?_; clear hS
            exact hJr10 _ _  ((((((hF.bare.add hF 9 rfl).add hF 8 rfl).add hF 7 rfl).add hF 6 rfl).add hF 1 rfl).add hF 0 rfl) (hH.sub _ (sub_cons (sub_cons (sub_nil _) 1 rfl) 900 rfl))
        refine wp_cond_split (hF.tmp 43 rfl) (fun hc43 => ?_) (fun hc43 => ?_)
        · have hk43_3 := hc43; try simp only [Bool.or_eq_true, Bool.and_eq_true, Bool.or_eq_false_iff, Bool.and_eq_false_iff, Bool.not_eq_true', Bool.not_eq_false', decide_eq_true_eq, decide_eq_false_iff_not, Bool.not_true, Bool.not_false] at hc43
          refine wp_region_lit ?_
          refine l_at hF rfl rfl rfl (x_move (hF.tmp 10 rfl)) ?_; clear hF; intro a hF
          refine l_at hF rfl rfl rfl (x_move (hF.tmp 6 rfl)) ?_; clear hF; intro a hF
          refine l_at hF rfl rfl rfl (x_sub (hF.tmp 44 rfl) (hF.tmp 45 rfl) (show IntKind.i64.wrap _ = ((ot - (lb - la) : Nat) : Int) from by rw [w64 (by omega) (by omega)] <;> omega)) ?_; clear hF; intro a hF
          refine l_at hF rfl rfl rfl (x_assign (hF.tmp 46 rfl)) ?_; clear hF; intro a hF
          refine wpList_nil ?_
          exact hJ43 _ _ (ot - (lb - la)) (by omega) (((((((hF.bare.add hF 10 rfl).add hF 9 rfl).add hF 8 rfl).add hF 7 rfl).add hF 6 rfl).add hF 1 rfl).add hF 0 rfl) (hH.sub _ (sub_cons (sub_cons (sub_nil _) 1 rfl) 900 rfl))
        · have hk43_4 := hc43; try simp only [Bool.or_eq_true, Bool.and_eq_true, Bool.or_eq_false_iff, Bool.and_eq_false_iff, Bool.not_eq_true', Bool.not_eq_false', decide_eq_true_eq, decide_eq_false_iff_not, Bool.not_true, Bool.not_false] at hc43
          refine wp_skip ?_
          exact hJ43 _ _ ot (by omega) (((((((hF.bare.add hF 10 rfl).add hF 9 rfl).add hF 8 rfl).add hF 7 rfl).add hF 6 rfl).add hF 1 rfl).add hF 0 rfl) (hH.sub _ (sub_cons (sub_cons (sub_nil _) 1 rfl) 900 rfl))
      · have hk33_5 := hc33; try simp only [Bool.or_eq_true, Bool.and_eq_true, Bool.or_eq_false_iff, Bool.and_eq_false_iff, Bool.not_eq_true', Bool.not_eq_false', decide_eq_true_eq, decide_eq_false_iff_not, Bool.not_true, Bool.not_false] at hc33
        refine wp_exit ?_
        try simp only [Exit.then, Exit.inBlock]
        try simp only [if_true]
        try simp only [Nat.reduceEqDiff, reduceIte]
        first | exact fin_end hF (res0 rfl) ⟨_, rfl, hH.mods, hH.row 900 rfl, hq0_3⟩ | exact fin_end hF (res0 rfl) ⟨_, rfl, hH.mods, hH.row 900 rfl, permIn_refl _ _ _⟩
  · have hk15_6 := hc15; try simp only [Bool.or_eq_true, Bool.and_eq_true, Bool.or_eq_false_iff, Bool.and_eq_false_iff, Bool.not_eq_true', Bool.not_eq_false', decide_eq_true_eq, decide_eq_false_iff_not, Bool.not_true, Bool.not_false] at hc15
    refine wp_skip ?_
    try simp only [Exit.then, Exit.inBlock]
    try simp only [if_true]
    try simp only [Nat.reduceEqDiff, reduceIte]
    first | exact fin_end hF (res0 rfl) ⟨_, rfl, hH.mods, hH.row 900 rfl, hq0_3⟩ | exact fin_end hF (res0 rfl) ⟨_, rfl, hH.mods, hH.row 900 rfl, permIn_refl _ _ _⟩

end Go.Proofs.Ytlcnoibjhmflnaa.Act
