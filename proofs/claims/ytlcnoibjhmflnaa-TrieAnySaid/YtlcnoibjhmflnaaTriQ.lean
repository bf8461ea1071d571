/- The partitions of the great sort. -/
import Derived.Test.YtlcnoibjhmflnaaSrz
import Derived.Test.YtlcnoibjhmflnaaTriX
set_option linter.unusedVariables false
set_option linter.unusedSimpArgs false
namespace Go.Proofs.Ytlcnoibjhmflnaa.Act
open Go.RowKit Go.Proofs.Ytlcnoibjhmflnaa.Sx Go.Sort Go.Proofs.Ytlcnoibjhmflnaa.Cod
set_option maxRecDepth 100000 in
set_option maxHeartbeats 1000000 in
theorem part_calls (w0 : World) {v : Value} {d : Array Int} (h : Row RB 5 w0 (fun _ => False) v d.toList) {la lb pv : Nat} (hap : la ≤ pv) (hpb : pv < lb) (hb : lb ≤ d.size) (hsz : d.size < 1000000000) : Calls Try.prog 53 #[v, .int .i64 (la : Int), .int .i64 (lb : Int), .int .i64 (pv : Int)] w0 fun e w' => e = .returned (.tuple #[.int .i64 ((Go.Sort.partition ltInt d la lb pv).1 : Int), .bool (Go.Sort.partition ltInt d la lb pv).2.1]) ∧ Mods (fun k => v.ownBlock = some k) w0 w' ∧ Row RB 5 w' (fun _ => False) v ((Go.Sort.partition ltInt d la lb pv).2.2).toList := by
  refine calls_of_wp Try.func53 rfl ?_
  have hF := Fr.enter #[v, .int .i64 (la : Int), .int .i64 (lb : Int), .int .i64 (pv : Int)] 168 (slotsOf [v, .int .i64 (la : Int), .int .i64 (lb : Int), .int .i64 (pv : Int)] 0) (Nat.le_of_ble_eq_true rfl) (fun i v h => by have h2 := (get_slotsOf _ 0 i v h).2; simpa only [List.getElem?_toArray, Nat.sub_zero] using h2)
  rw [Try.ntmps53]
  revert hF; generalize (⟨(#[v, .int .i64 (la : Int), .int .i64 (lb : Int), .int .i64 (pv : Int)] : Array Value) ++ Array.replicate (168 - (#[v, .int .i64 (la : Int), .int .i64 (lb : Int), .int .i64 (pv : Int)] : Array Value).size) undef, []⟩ : Act) = a; intro hF
  have hH := Hp.ownrow 900 h (fun _ h => h.elim) (fun _ _ h => h)
  have hdl : d.toList.length = d.size := by simp
  refine wp_seq_k fun khK1 hK1 => ?_
  refine wp_region_lit ?_
  refine l_at hF rfl rfl rfl (x_assign rfl) ?_; clear hF; intro a hF
  refine l_at hF rfl rfl rfl (x_assign rfl) ?_; clear hF; intro a hF
  refine wpList_nil ?_
  refine hK1 _ _ ?_
  refine wp_seq_k fun khK2 hK2 => ?_
  have hJr1 : ∀ a w, ∀ d1 : Array Int, (d1 = (swp d la pv)) → Fr 168 a [(0, v), (1, .int .i64 (la : Int)), (2, .int .i64 (lb : Int))] → Hp (fun k => v.ownBlock = some k) w0 w [(900, .row RB 5 v d1.toList (fun _ => False))] → khK2 a w := by
    intro a w d1 hjr1_0 hF hH
    refine hK2 a w ?_
    have hz1 : d1.size = d.size := by rw [hjr1_0, Sx.swp_size]
    have hl_d1 : d1.toList.length = d.size := by simp only [Array.length_toList]; omega
    refine wp_seq_k fun khK3 hK3 => ?_
    refine wp_region_lit ?_
    refine l_at hF rfl rfl rfl (x_move (hF.tmp 1 rfl)) ?_; clear hF; intro a hF
    refine l_at hF rfl rfl rfl (x_add (hF.tmp 26 rfl) rfl (show IntKind.i64.wrap _ = ((la + 1 : Nat) : Int) from by rw [w64 (by omega) (by omega)] <;> omega)) ?_; clear hF; intro a hF
    refine l_at hF rfl rfl rfl (x_move (hF.tmp 2 rfl)) ?_; clear hF; intro a hF
    refine l_at hF rfl rfl rfl (x_sub (hF.tmp 28 rfl) rfl (show IntKind.i64.wrap _ = ((lb - 1 : Nat) : Int) from by rw [w64 (by omega) (by omega)] <;> omega)) ?_; clear hF; intro a hF
    refine l_at hF rfl rfl rfl (x_assign (hF.tmp 27 rfl)) ?_; clear hF; intro a hF
    refine l_at hF rfl rfl rfl (x_assign (hF.tmp 29 rfl)) ?_; clear hF; intro a hF
    refine wpList_nil ?_
    refine hK3 _ _ ?_
    refine wp_seq_k fun khK4 hK4 => ?_
    refine wp_block ?_
    refine wp_loop_ghost (fun n_ a w => ∃ i : Nat, n_ = lb - i ∧ (la + 1 ≤ i) ∧ (i ≤ lb) ∧ (scanUp (fun x => ltInt x d1[la]!) d1 (lb - 1) i = scanUp (fun x => ltInt x d1[la]!) d1 (lb - 1) (la + 1)) ∧ Fr 168 a [(0, v), (1, .int .i64 (la : Int)), (10, .int .i64 (i : Int)), (11, .int .i64 ((lb - 1 : Nat) : Int))] ∧ Hp (fun k => v.ownBlock = some k) w0 w [(900, .row RB 5 v d1.toList (fun _ => False))]) (lb - (la + 1)) ?_ ?_
    · exact ⟨la + 1, rfl, by omega, by omega, rfl, ((((hF.bare.add hF 11 rfl).add hF 10 rfl).add hF 1 rfl).add hF 0 rfl), hH.sub _ (sub_cons (sub_nil _) 900 rfl)⟩
    · rintro _ a w ⟨i, rfl, hq0_0, hq0_1, hq0_2, hF, hH⟩
      refine wp_seq_k fun khK5 hK5 => ?_
      refine wp_seq_k fun khK6 hK6 => ?_
      have hJr3 : ∀ a w, ∀ c3 : Bool, (c3 = (decide (i ≤ lb - 1) && ltInt d1[i]! d1[la]!)) → Fr 168 a [(0, v), (1, .int .i64 (la : Int)), (10, .int .i64 (i : Int)), (11, .int .i64 ((lb - 1 : Nat) : Int)), (43, .bool c3)] → Hp (fun k => v.ownBlock = some k) w0 w [(900, .row RB 5 v d1.toList (fun _ => False))] → khK6 a w := by
        intro a w c3 hjr3_0 hF hH
        refine hK6 a w ?_
        refine wp_cond_split (hF.tmp 43 rfl) (fun hc43 => ?_) (fun hc43 => ?_)
        · have hk43_1 := hc43; try simp only [Bool.or_eq_true, Bool.and_eq_true, Bool.or_eq_false_iff, Bool.and_eq_false_iff, Bool.not_eq_true', Bool.not_eq_false', decide_eq_true_eq, decide_eq_false_iff_not, Bool.not_true, Bool.not_false] at hc43
          have hs43 := sc_of hjr3_0 hc43
          refine wp_skip ?_
          refine hK5 _ _ ?_
          refine wp_block ?_
          refine wp_region_lit ?_
          refine l_at hF rfl rfl rfl (x_move (hF.tmp 10 rfl)) ?_; clear hF; intro a hF
          refine l_at hF rfl rfl rfl (x_add (hF.tmp 44 rfl) rfl (show IntKind.i64.wrap _ = ((i + 1 : Nat) : Int) from by rw [w64 (by omega) (by omega)] <;> omega)) ?_; clear hF; intro a hF
          refine l_at hF rfl rfl rfl (x_assign (hF.tmp 45 rfl)) ?_; clear hF; intro a hF
          refine wpList_nil ?_
          exact ⟨_, by omega, ⟨i + 1, rfl, by omega, by omega, (by rw [scanUp_on (p := (fun x => ltInt x d1[la]!)) hs43]; exact hq0_2), ((((hF.bare.add hF 11 rfl).add hF 10 rfl).add hF 1 rfl).add hF 0 rfl), hH.sub _ (sub_cons (sub_nil _) 900 rfl)⟩⟩
        · have hk43_2 := hc43; try simp only [Bool.or_eq_true, Bool.and_eq_true, Bool.or_eq_false_iff, Bool.and_eq_false_iff, Bool.not_eq_true', Bool.not_eq_false', decide_eq_true_eq, decide_eq_false_iff_not, Bool.not_true, Bool.not_false] at hc43
          have ho43 := scanUp_off (p := (fun x => ltInt x d1[la]!)) (sc_no hjr3_0 hc43)
          refine wp_exit ?_
          refine hK4 _ _ ?_
          refine wp_seq_k fun khK7 hK7 => ?_
          refine wp_block ?_
          refine wp_loop_ghost (fun n_ a w => ∃ j : Nat, n_ = 0 + j ∧ (la ≤ j) ∧ (j ≤ lb - 1) ∧ (i ≤ j + 1) ∧ (scanDown (fun x => !ltInt x d1[la]!) d1 i j = scanDown (fun x => !ltInt x d1[la]!) d1 i (lb - 1)) ∧ Fr 168 a [(0, v), (1, .int .i64 (la : Int)), (10, .int .i64 (i : Int)), (11, .int .i64 (j : Int))] ∧ Hp (fun k => v.ownBlock = some k) w0 w [(900, .row RB 5 v d1.toList (fun _ => False))]) (0 + (lb - 1)) ?_ ?_
          · exact ⟨lb - 1, rfl, by omega, by omega, by omega, rfl, ((((hF.bare.add hF 11 rfl).add hF 10 rfl).add hF 1 rfl).add hF 0 rfl), hH.sub _ (sub_cons (sub_nil _) 900 rfl)⟩
          · rintro _ a w ⟨j, rfl, hq2_0, hq2_1, hq2_2, hq2_3, hF, hH⟩
            refine wp_seq_k fun khK8 hK8 => ?_
            refine wp_seq_k fun khK9 hK9 => ?_
            have hJr5 : ∀ a w, ∀ c5 : Bool, (c5 = (decide (i ≤ j) && !ltInt d1[j]! d1[la]!)) → Fr 168 a [(0, v), (1, .int .i64 (la : Int)), (10, .int .i64 (i : Int)), (11, .int .i64 (j : Int)), (60, .bool c5)] → Hp (fun k => v.ownBlock = some k) w0 w [(900, .row RB 5 v d1.toList (fun _ => False))] → khK9 a w := by
              intro a w c5 hjr5_0 hF hH
              refine hK9 a w ?_
              refine wp_cond_split (hF.tmp 60 rfl) (fun hc60 => ?_) (fun hc60 => ?_)
              · have hk60_3 := hc60; try simp only [Bool.or_eq_true, Bool.and_eq_true, Bool.or_eq_false_iff, Bool.and_eq_false_iff, Bool.not_eq_true', Bool.not_eq_false', decide_eq_true_eq, decide_eq_false_iff_not, Bool.not_true, Bool.not_false] at hc60
                have hs60 := sc_of hjr5_0 hc60
                refine wp_skip ?_
                refine hK8 _ _ ?_
                refine wp_block ?_
                refine wp_region_lit ?_
                refine l_at hF rfl rfl rfl (x_move (hF.tmp 11 rfl)) ?_; clear hF; intro a hF
                refine l_at hF rfl rfl rfl (x_sub (hF.tmp 61 rfl) rfl (show IntKind.i64.wrap _ = ((j - 1 : Nat) : Int) from by rw [w64 (by omega) (by omega)] <;> omega)) ?_; clear hF; intro a hF
                refine l_at hF rfl rfl rfl (x_assign (hF.tmp 62 rfl)) ?_; clear hF; intro a hF
                refine wpList_nil ?_
                exact ⟨_, by omega, ⟨j - 1, rfl, by omega, by omega, by omega, (by rw [scanDown_on (p := (fun x => !ltInt x d1[la]!)) (by omega) hs60]; exact hq2_3), ((((hF.bare.add hF 11 rfl).add hF 10 rfl).add hF 1 rfl).add hF 0 rfl), hH.sub _ (sub_cons (sub_nil _) 900 rfl)⟩⟩
              · have hk60_4 := hc60; try simp only [Bool.or_eq_true, Bool.and_eq_true, Bool.or_eq_false_iff, Bool.and_eq_false_iff, Bool.not_eq_true', Bool.not_eq_false', decide_eq_true_eq, decide_eq_false_iff_not, Bool.not_true, Bool.not_false] at hc60
                have ho60 := scanDown_off (p := (fun x => !ltInt x d1[la]!)) (sc_no hjr5_0 hc60)
                refine wp_exit ?_
                refine hK7 _ _ ?_
                refine wp_seq_k fun khK10 hK10 => ?_
                refine wp_seq_k fun khK11 hK11 => ?_
                refine wp_region_lit ?_
                refine l_at hF rfl rfl rfl (x_move (hF.tmp 10 rfl)) ?_; clear hF; intro a hF
                refine l_at hF rfl rfl rfl (x_move (hF.tmp 11 rfl)) ?_; clear hF; intro a hF
                refine l_at hF rfl rfl rfl (x_gtr (hF.tmp 63 rfl) (hF.tmp 64 rfl)) ?_; clear hF; intro a hF
                refine wpList_nil ?_
                refine hK11 _ _ ?_
                refine wp_cond_split (hF.tmp 65 rfl) (fun hc65 => ?_) (fun hc65 => ?_)
                · have hk65_5 := hc65; try simp only [Bool.or_eq_true, Bool.and_eq_true, Bool.or_eq_false_iff, Bool.and_eq_false_iff, Bool.not_eq_true', Bool.not_eq_false', decide_eq_true_eq, decide_eq_false_iff_not, Bool.not_true, Bool.not_false] at hc65
                  refine wp_seq_k fun khK12 hK12 => ?_
                  have hJr8 : ∀ a w, Fr 168 a [(11, .int .i64 (j : Int))] → Hp (fun k => v.ownBlock = some k) w0 w [(900, .row RB 5 v (swp d1 j la).toList (fun _ => False))] → khK12 a w := by
                    intro a w  hF hH
                    refine hK12 a w ?_
                    refine wp_seq_k fun khK13 hK13 => ?_
                    refine wp_region_lit ?_
                    refine l_at hF rfl rfl rfl (x_move (hF.tmp 11 rfl)) ?_; clear hF; intro a hF
                    refine l_at hF rfl rfl rfl (x_assign (hF.tmp 80 rfl)) ?_; clear hF; intro a hF
                    refine l_at hF rfl rfl rfl (x_assign rfl) ?_; clear hF; intro a hF
                    refine wpList_nil ?_
                    refine hK13 _ _ ?_
                    refine wp_ret ?_
                    try simp only [Exit.then, Exit.inBlock]
                    have hpt := partition_a hjr1_0 (hq0_2 ▸ ho43) (hq2_3 ▸ ho60) (by omega)
                    exact fin_ret hF (res2 hF rfl rfl rfl) ⟨by rw [hpt] <;> rfl, hH.mods, by rw [hpt]; exact hH.row 900 rfl⟩
                  refine r_start [] (by kernel_rfl) hH fun hH => ?_
                  have hS : SL [] _ := SL.of hH (sub_nil _)
                  refine r_take 0 hF rfl rfl rfl (by kernel_rfl) (by kernel_rfl) (by kernel_rfl) (fun _ _ _ h => h) rfl hS (fun w hS => x_move (hF.tmp 0 rfl)) rfl ?_; clear hF; intro a hF
                  refine r_take 1 hF rfl rfl rfl (by kernel_rfl) (by kernel_rfl) (by kernel_rfl) (fun _ _ _ h => h) rfl hS (fun w hS => x_move (hF.tmp 11 rfl)) rfl ?_; clear hF; intro a hF
                  refine r_take 2 hF rfl rfl rfl (by kernel_rfl) (by kernel_rfl) (by kernel_rfl) (fun _ _ _ h => h) rfl hS (fun w hS => x_move (hF.tmp 0 rfl)) rfl ?_; clear hF; intro a hF
                  refine r_take 3 hF rfl rfl rfl (by kernel_rfl) (by kernel_rfl) (by kernel_rfl) (fun _ _ _ h => h) rfl hS (fun w hS => x_move (hF.tmp 1 rfl)) rfl ?_; clear hF; intro a hF
                  refine r_take 4 hF rfl rfl rfl (by kernel_rfl) (by kernel_rfl) (by kernel_rfl) (fun _ _ _ h => h) rfl hS (fun w hS => x_move (hF.tmp 0 rfl)) rfl ?_; clear hF; intro a hF
                  refine r_take 5 hF rfl rfl rfl (by kernel_rfl) (by kernel_rfl) (by kernel_rfl) (fun _ _ _ h => h) rfl hS (fun w hS => x_move (hF.tmp 1 rfl)) rfl ?_; clear hF; intro a hF
                  refine r_take 6 hF rfl rfl rfl (by kernel_rfl) (by kernel_rfl) (by kernel_rfl) (fun _ _ _ h => h) rfl hS (fun w hS => x_iaddrV Try.underlying72 ty5 (hH.row 900 rfl) (hF.tmp 70 rfl) (hF.tmp 71 rfl) (by omega) (by omega) _) rfl ?_; clear hF; intro a hF
                  refine r_take 8 hF rfl rfl rfl (by kernel_rfl) (by kernel_rfl) (by kernel_rfl) (fun _ _ _ h => h) rfl hS (fun w hS => x_move (hF.tmp 0 rfl)) rfl ?_; clear hF; intro a hF
                  refine r_take 9 hF rfl rfl rfl (by kernel_rfl) (by kernel_rfl) (by kernel_rfl) (fun _ _ _ h => h) rfl hS (fun w hS => x_move (hF.tmp 11 rfl)) rfl ?_; clear hF; intro a hF
                  refine r_take 10 hF rfl rfl rfl (by kernel_rfl) (by kernel_rfl) (by kernel_rfl) (fun _ _ _ h => h) rfl hS (fun w hS => x_iaddrV Try.underlying72 ty5 (hH.row 900 rfl) (hF.tmp 74 rfl) (hF.tmp 75 rfl) (by omega) (by omega) _) rfl ?_; clear hF; intro a hF
                  refine r_do2 7 11 rfl rfl (by kernel_rfl) rfl rfl rfl rfl ?_ ?_
                  ·
                    refine w_at hF (x_load1 ty5 (hF.tmp 72 rfl) ((Row.rdV (hH.row 900 rfl)).cellA (gi_some (xs := d1.toList) (i := (la : Int)) (by omega) (by omega)))) rfl rfl ?_
                    clear hF; intro a hF
                    clear hS; have hS : SL _ _ := SL.of hH (sub_nil _); refine ⟨hS, ?_⟩
                    refine r_do 11 rfl (by kernel_rfl) rfl rfl ?_
                    refine w_at hF (x_load1 ty5 (hF.tmp 76 rfl) ((Row.rdV (hH.row 900 rfl)).cellA (gi_some (xs := d1.toList) (i := (j : Int)) (by omega) (by omega)))) rfl rfl ?_
                    clear hF; intro a hF
                    clear hS; have hS : SL _ _ := SL.of hH (sub_nil _); refine ⟨hS, ?_⟩
                    refine r_take 12 hF rfl rfl rfl (by kernel_rfl) (by kernel_rfl) (by kernel_rfl) (fun _ _ _ h => h) rfl hS (fun w hS => x_iaddrV Try.underlying72 ty5 (hH.row 900 rfl) (hF.tmp 66 rfl) (hF.tmp 67 rfl) (by omega) (by omega) _) rfl ?_; clear hF; intro a hF
                    refine r_do 13 rfl (by kernel_rfl) rfl rfl ?_
                    refine w_setV (xs := d1.toList) 900 j (gi d1.toList ((la : Nat) : Int)) hH ty5 rfl (by first | omega | (simp only [List.length_set]; omega)) (hF.tmp 78 rfl) (hF.tmp 73 rfl) ?_
                    clear hH; intro w hH
                    clear hS; have hS : SL _ _ := SL.of hH (sub_nil _); refine ⟨hS, ?_⟩
                    refine r_take 14 hF rfl rfl rfl (by kernel_rfl) (by kernel_rfl) (by kernel_rfl) (fun _ _ _ h => h) rfl hS (fun w hS => x_iaddrV Try.underlying72 ty5 (hH.row 900 rfl) (hF.tmp 68 rfl) (hF.tmp 69 rfl) (by omega) (by first | omega | (simp only [List.length_set]; omega)) _) rfl ?_; clear hF; intro a hF
                    refine r_do 15 rfl (by kernel_rfl) rfl rfl ?_
                    refine w_setV (xs := (d1.toList.set j (gi d1.toList ((la : Nat) : Int)))) 900 la (gi d1.toList ((j : Nat) : Int)) hH ty5 rfl (by first | omega | (simp only [List.length_set]; omega)) (hF.tmp 79 rfl) (hF.tmp 77 rfl) ?_
                    clear hH; intro w hH
                    clear hS; have hS : SL _ _ := SL.of hH (sub_nil _); refine ⟨hS, ?_⟩
                    have hH := hH.relab 900 (Y := .row RB 5 v (swp d1 j la).toList (fun _ => False)) rfl (by rw [swp_list])
                    refine r_end (by kernel_rfl) ?_; clear hS
                    exact hJr8 _ _  (hF.bare.add hF 11 rfl) (hH.sub _ (sub_cons (sub_nil _) 900 rfl))
                  ·
                    refine w_at hF (x_load1 ty5 (hF.tmp 76 rfl) ((Row.rdV (hH.row 900 rfl)).cellA (gi_some (xs := d1.toList) (i := (j : Int)) (by omega) (by omega)))) rfl rfl ?_
                    clear hF; intro a hF
                    clear hS; have hS : SL _ _ := SL.of hH (sub_nil _); refine ⟨hS, ?_⟩
                    refine r_do 7 rfl (by kernel_rfl) rfl rfl ?_
                    refine w_at hF (x_load1 ty5 (hF.tmp 72 rfl) ((Row.rdV (hH.row 900 rfl)).cellA (gi_some (xs := d1.toList) (i := (la : Int)) (by omega) (by omega)))) rfl rfl ?_
                    clear hF; intro a hF
                    clear hS; have hS : SL _ _ := SL.of hH (sub_nil _); refine ⟨hS, ?_⟩
                    refine r_take 12 hF rfl rfl rfl (by kernel_rfl) (by kernel_rfl) (by kernel_rfl) (fun _ _ _ h => h) rfl hS (fun w hS => x_iaddrV Try.underlying72 ty5 (hH.row 900 rfl) (hF.tmp 66 rfl) (hF.tmp 67 rfl) (by omega) (by omega) _) rfl ?_; clear hF; intro a hF
                    refine r_do 13 rfl (by kernel_rfl) rfl rfl ?_
                    refine w_setV (xs := d1.toList) 900 j (gi d1.toList ((la : Nat) : Int)) hH ty5 rfl (by first | omega | (simp only [List.length_set]; omega)) (hF.tmp 78 rfl) (hF.tmp 73 rfl) ?_
                    clear hH; intro w hH
                    clear hS; have hS : SL _ _ := SL.of hH (sub_nil _); refine ⟨hS, ?_⟩
                    refine r_take 14 hF rfl rfl rfl (by kernel_rfl) (by kernel_rfl) (by kernel_rfl) (fun _ _ _ h => h) rfl hS (fun w hS => x_iaddrV Try.underlying72 ty5 (hH.row 900 rfl) (hF.tmp 68 rfl) (hF.tmp 69 rfl) (by omega) (by first | omega | (simp only [List.length_set]; omega)) _) rfl ?_; clear hF; intro a hF
                    refine r_do 15 rfl (by kernel_rfl) rfl rfl ?_
                    refine w_setV (xs := (d1.toList.set j (gi d1.toList ((la : Nat) : Int)))) 900 la (gi d1.toList ((j : Nat) : Int)) hH ty5 rfl (by first | omega | (simp only [List.length_set]; omega)) (hF.tmp 79 rfl) (hF.tmp 77 rfl) ?_
                    clear hH; intro w hH
                    clear hS; have hS : SL _ _ := SL.of hH (sub_nil _); refine ⟨hS, ?_⟩
                    have hH := hH.relab 900 (Y := .row RB 5 v (swp d1 j la).toList (fun _ => False)) rfl (by rw [swp_list])
                    refine r_end (by kernel_rfl) ?_; clear hS
                    exact hJr8 _ _  (hF.bare.add hF 11 rfl) (hH.sub _ (sub_cons (sub_nil _) 900 rfl))
                · have hk65_6 := hc65; try simp only [Bool.or_eq_true, Bool.and_eq_true, Bool.or_eq_false_iff, Bool.and_eq_false_iff, Bool.not_eq_true', Bool.not_eq_false', decide_eq_true_eq, decide_eq_false_iff_not, Bool.not_true, Bool.not_false] at hc65
                  refine wp_skip ?_
                  refine hK10 _ _ ?_
                  refine wp_seq_k fun khK14 hK14 => ?_
                  have hJr10 : ∀ a w, Fr 168 a [(0, v), (1, .int .i64 (la : Int)), (10, .int .i64 (i : Int)), (11, .int .i64 (j : Int))] → Hp (fun k => v.ownBlock = some k) w0 w [(900, .row RB 5 v (swp d1 i j).toList (fun _ => False))] → khK14 a w := by
                    intro a w  hF hH
                    refine hK14 a w ?_
                    refine wp_seq_k fun khK15 hK15 => ?_
                    refine wp_region_lit ?_
                    refine l_at hF rfl rfl rfl (x_move (hF.tmp 10 rfl)) ?_; clear hF; intro a hF
                    refine l_at hF rfl rfl rfl (x_add (hF.tmp 95 rfl) rfl (show IntKind.i64.wrap _ = ((i + 1 : Nat) : Int) from by rw [w64 (by omega) (by omega)] <;> omega)) ?_; clear hF; intro a hF
                    refine l_at hF rfl rfl rfl (x_assign (hF.tmp 96 rfl)) ?_; clear hF; intro a hF
                    refine wpList_nil ?_
                    refine hK15 _ _ ?_
                    refine wp_seq_k fun khK16 hK16 => ?_
                    refine wp_region_lit ?_
                    refine l_at hF rfl rfl rfl (x_move (hF.tmp 11 rfl)) ?_; clear hF; intro a hF
                    refine l_at hF rfl rfl rfl (x_sub (hF.tmp 97 rfl) rfl (show IntKind.i64.wrap _ = ((j - 1 : Nat) : Int) from by rw [w64 (by omega) (by omega)] <;> omega)) ?_; clear hF; intro a hF
                    refine l_at hF rfl rfl rfl (x_assign (hF.tmp 98 rfl)) ?_; clear hF; intro a hF
                    refine wpList_nil ?_
                    refine hK16 _ _ ?_
                    refine wp_seq_k fun khK17 hK17 => ?_
                    refine wp_block ?_
                    refine wp_loop_ghost (fun n_ a w => ∃ p : Nat, ∃ q : Nat, ∃ dk : Array Int, n_ = q + 2 - p ∧ (la + 1 ≤ p) ∧ (p ≤ q + 2) ∧ (la ≤ q) ∧ (q ≤ lb - 1) ∧ (dk.size = d.size) ∧ (partLoop ltInt la p q dk = partLoop ltInt la (i + 1) (j - 1) (swp d1 i j)) ∧ Fr 168 a [(0, v), (1, .int .i64 (la : Int)), (10, .int .i64 (p : Int)), (11, .int .i64 (q : Int))] ∧ Hp (fun k => v.ownBlock = some k) w0 w [(900, .row RB 5 v dk.toList (fun _ => False))]) ((j - 1) + 2 - (i + 1)) ?_ ?_
                    · exact ⟨i + 1, j - 1, (swp d1 i j), rfl, by omega, by omega, by omega, by omega, (by rw [Sx.swp_size]; exact hz1), rfl, ((((hF.bare.add hF 11 rfl).add hF 10 rfl).add hF 1 rfl).add hF 0 rfl), hH.sub _ (sub_cons (sub_nil _) 900 rfl)⟩
                    · rintro _ a w ⟨p, q, dk, rfl, hq4_0, hq4_1, hq4_2, hq4_3, hq4_4, hq4_5, hF, hH⟩
                      have hl_dk : dk.toList.length = d.size := by simp only [Array.length_toList]; omega
                      refine wp_block ?_
                      refine wp_seq_k fun khK18 hK18 => ?_
                      refine wp_block ?_
                      refine wp_loop_ghost (fun n_ a w => ∃ i6 : Nat, n_ = q + 2 - i6 ∧ (p ≤ i6) ∧ (i6 ≤ q + 2) ∧ (scanUp (fun x => ltInt x dk[la]!) dk (q) i6 = scanUp (fun x => ltInt x dk[la]!) dk (q) (p)) ∧ Fr 168 a [(0, v), (1, .int .i64 (la : Int)), (10, .int .i64 (i6 : Int)), (11, .int .i64 (q : Int))] ∧ Hp (fun k => v.ownBlock = some k) w0 w [(900, .row RB 5 v dk.toList (fun _ => False))]) (q + 2 - p) ?_ ?_
                      · exact ⟨p, rfl, by omega, by omega, rfl, ((((hF.bare.add hF 11 rfl).add hF 10 rfl).add hF 1 rfl).add hF 0 rfl), hH.sub _ (sub_cons (sub_nil _) 900 rfl)⟩
                      · rintro _ a w ⟨i6, rfl, hq6_0, hq6_1, hq6_2, hF, hH⟩
                        refine wp_seq_k fun khK19 hK19 => ?_
                        refine wp_seq_k fun khK20 hK20 => ?_
                        have hJr13 : ∀ a w, ∀ c13 : Bool, (c13 = (decide (i6 ≤ q) && ltInt dk[i6]! dk[la]!)) → Fr 168 a [(0, v), (1, .int .i64 (la : Int)), (10, .int .i64 (i6 : Int)), (11, .int .i64 (q : Int)), (112, .bool c13)] → Hp (fun k => v.ownBlock = some k) w0 w [(900, .row RB 5 v dk.toList (fun _ => False))] → khK20 a w := by
                          intro a w c13 hjr13_0 hF hH
                          refine hK20 a w ?_
                          refine wp_cond_split (hF.tmp 112 rfl) (fun hc112 => ?_) (fun hc112 => ?_)
                          · have hk112_7 := hc112; try simp only [Bool.or_eq_true, Bool.and_eq_true, Bool.or_eq_false_iff, Bool.and_eq_false_iff, Bool.not_eq_true', Bool.not_eq_false', decide_eq_true_eq, decide_eq_false_iff_not, Bool.not_true, Bool.not_false] at hc112
                            have hs112 := sc_of hjr13_0 hc112
                            refine wp_skip ?_
                            refine hK19 _ _ ?_
                            refine wp_block ?_
                            refine wp_region_lit ?_
                            refine l_at hF rfl rfl rfl (x_move (hF.tmp 10 rfl)) ?_; clear hF; intro a hF
                            refine l_at hF rfl rfl rfl (x_add (hF.tmp 113 rfl) rfl (show IntKind.i64.wrap _ = ((i6 + 1 : Nat) : Int) from by rw [w64 (by omega) (by omega)] <;> omega)) ?_; clear hF; intro a hF
                            refine l_at hF rfl rfl rfl (x_assign (hF.tmp 114 rfl)) ?_; clear hF; intro a hF
                            refine wpList_nil ?_
                            exact ⟨_, by omega, ⟨i6 + 1, rfl, by omega, by omega, (by rw [scanUp_on (p := (fun x => ltInt x dk[la]!)) hs112]; exact hq6_2), ((((hF.bare.add hF 11 rfl).add hF 10 rfl).add hF 1 rfl).add hF 0 rfl), hH.sub _ (sub_cons (sub_nil _) 900 rfl)⟩⟩
                          · have hk112_8 := hc112; try simp only [Bool.or_eq_true, Bool.and_eq_true, Bool.or_eq_false_iff, Bool.and_eq_false_iff, Bool.not_eq_true', Bool.not_eq_false', decide_eq_true_eq, decide_eq_false_iff_not, Bool.not_true, Bool.not_false] at hc112
                            have ho112 := scanUp_off (p := (fun x => ltInt x dk[la]!)) (sc_no hjr13_0 hc112)
                            refine wp_exit ?_
                            refine hK18 _ _ ?_
                            refine wp_seq_k fun khK21 hK21 => ?_
                            refine wp_block ?_
                            refine wp_loop_ghost (fun n_ a w => ∃ j8 : Nat, n_ = 0 + j8 ∧ (la ≤ j8) ∧ (j8 ≤ q) ∧ (i6 ≤ j8 + 2) ∧ (scanDown (fun x => !ltInt x dk[la]!) dk i6 j8 = scanDown (fun x => !ltInt x dk[la]!) dk i6 (q)) ∧ Fr 168 a [(0, v), (1, .int .i64 (la : Int)), (10, .int .i64 (i6 : Int)), (11, .int .i64 (j8 : Int))] ∧ Hp (fun k => v.ownBlock = some k) w0 w [(900, .row RB 5 v dk.toList (fun _ => False))]) (0 + q) ?_ ?_
                            · exact ⟨q, rfl, by omega, by omega, by omega, rfl, ((((hF.bare.add hF 11 rfl).add hF 10 rfl).add hF 1 rfl).add hF 0 rfl), hH.sub _ (sub_cons (sub_nil _) 900 rfl)⟩
                            · rintro _ a w ⟨j8, rfl, hq8_0, hq8_1, hq8_2, hq8_3, hF, hH⟩
                              refine wp_seq_k fun khK22 hK22 => ?_
                              refine wp_seq_k fun khK23 hK23 => ?_
                              have hJr15 : ∀ a w, ∀ c15 : Bool, (c15 = (decide (i6 ≤ j8) && !ltInt dk[j8]! dk[la]!)) → Fr 168 a [(0, v), (1, .int .i64 (la : Int)), (10, .int .i64 (i6 : Int)), (11, .int .i64 (j8 : Int)), (129, .bool c15)] → Hp (fun k => v.ownBlock = some k) w0 w [(900, .row RB 5 v dk.toList (fun _ => False))] → khK23 a w := by
                                intro a w c15 hjr15_0 hF hH
                                refine hK23 a w ?_
                                refine wp_cond_split (hF.tmp 129 rfl) (fun hc129 => ?_) (fun hc129 => ?_)
                                · have hk129_9 := hc129; try simp only [Bool.or_eq_true, Bool.and_eq_true, Bool.or_eq_false_iff, Bool.and_eq_false_iff, Bool.not_eq_true', Bool.not_eq_false', decide_eq_true_eq, decide_eq_false_iff_not, Bool.not_true, Bool.not_false] at hc129
                                  have hs129 := sc_of hjr15_0 hc129
                                  refine wp_skip ?_
                                  refine hK22 _ _ ?_
                                  refine wp_block ?_
                                  refine wp_region_lit ?_
                                  refine l_at hF rfl rfl rfl (x_move (hF.tmp 11 rfl)) ?_; clear hF; intro a hF
                                  refine l_at hF rfl rfl rfl (x_sub (hF.tmp 130 rfl) rfl (show IntKind.i64.wrap _ = ((j8 - 1 : Nat) : Int) from by rw [w64 (by omega) (by omega)] <;> omega)) ?_; clear hF; intro a hF
                                  refine l_at hF rfl rfl rfl (x_assign (hF.tmp 131 rfl)) ?_; clear hF; intro a hF
                                  refine wpList_nil ?_
                                  exact ⟨_, by omega, ⟨j8 - 1, rfl, by omega, by omega, by omega, (by rw [scanDown_on (p := (fun x => !ltInt x dk[la]!)) (by omega) hs129]; exact hq8_3), ((((hF.bare.add hF 11 rfl).add hF 10 rfl).add hF 1 rfl).add hF 0 rfl), hH.sub _ (sub_cons (sub_nil _) 900 rfl)⟩⟩
                                · have hk129_10 := hc129; try simp only [Bool.or_eq_true, Bool.and_eq_true, Bool.or_eq_false_iff, Bool.and_eq_false_iff, Bool.not_eq_true', Bool.not_eq_false', decide_eq_true_eq, decide_eq_false_iff_not, Bool.not_true, Bool.not_false] at hc129
                                  have ho129 := scanDown_off (p := (fun x => !ltInt x dk[la]!)) (sc_no hjr15_0 hc129)
                                  refine wp_exit ?_
                                  refine hK21 _ _ ?_
                                  refine wp_seq_k fun khK24 hK24 => ?_
                                  refine wp_seq_k fun khK25 hK25 => ?_
                                  refine wp_region_lit ?_
                                  refine l_at hF rfl rfl rfl (x_move (hF.tmp 10 rfl)) ?_; clear hF; intro a hF
                                  refine l_at hF rfl rfl rfl (x_move (hF.tmp 11 rfl)) ?_; clear hF; intro a hF
                                  refine l_at hF rfl rfl rfl (x_gtr (hF.tmp 132 rfl) (hF.tmp 133 rfl)) ?_; clear hF; intro a hF
                                  refine wpList_nil ?_
                                  refine hK25 _ _ ?_
                                  refine wp_cond_split (hF.tmp 134 rfl) (fun hc134 => ?_) (fun hc134 => ?_)
                                  · have hk134_11 := hc134; try simp only [Bool.or_eq_true, Bool.and_eq_true, Bool.or_eq_false_iff, Bool.and_eq_false_iff, Bool.not_eq_true', Bool.not_eq_false', decide_eq_true_eq, decide_eq_false_iff_not, Bool.not_true, Bool.not_false] at hc134
                                    refine wp_exit ?_
                                    refine hK17 _ _ ?_
                                    refine wp_seq_k fun khK26 hK26 => ?_
                                    have hJr21 : ∀ a w, Fr 168 a [(11, .int .i64 (j8 : Int))] → Hp (fun k => v.ownBlock = some k) w0 w [(900, .row RB 5 v (swp dk j8 la).toList (fun _ => False))] → khK26 a w := by
                                      intro a w  hF hH
                                      refine hK26 a w ?_
                                      refine wp_seq_k fun khK27 hK27 => ?_
                                      refine wp_region_lit ?_
                                      refine l_at hF rfl rfl rfl (x_move (hF.tmp 11 rfl)) ?_; clear hF; intro a hF
                                      refine l_at hF rfl rfl rfl (x_assign (hF.tmp 167 rfl)) ?_; clear hF; intro a hF
                                      refine l_at hF rfl rfl rfl (x_assign rfl) ?_; clear hF; intro a hF
                                      refine wpList_nil ?_
                                      refine hK27 _ _ ?_
                                      refine wp_ret ?_
                                      try simp only [Exit.then, Exit.inBlock]
                                      have hpt := partition_b hjr1_0 (hq0_2 ▸ ho43) (hq2_3 ▸ ho60) (by omega) (hq4_5 ▸ part_stop (hq6_2 ▸ ho112) (hq8_3 ▸ ho129) (by omega))
                                      exact fin_ret hF (res2 hF rfl rfl rfl) ⟨by rw [hpt] <;> rfl, hH.mods, by rw [hpt]; exact hH.row 900 rfl⟩
                                    refine r_start [] (by kernel_rfl) hH fun hH => ?_
                                    have hS : SL [] _ := SL.of hH (sub_nil _)
                                    refine r_take 0 hF rfl rfl rfl (by kernel_rfl) (by kernel_rfl) (by kernel_rfl) (fun _ _ _ h => h) rfl hS (fun w hS => x_move (hF.tmp 0 rfl)) rfl ?_; clear hF; intro a hF
                                    refine r_take 1 hF rfl rfl rfl (by kernel_rfl) (by kernel_rfl) (by kernel_rfl) (fun _ _ _ h => h) rfl hS (fun w hS => x_move (hF.tmp 11 rfl)) rfl ?_; clear hF; intro a hF
                                    refine r_take 2 hF rfl rfl rfl (by kernel_rfl) (by kernel_rfl) (by kernel_rfl) (fun _ _ _ h => h) rfl hS (fun w hS => x_move (hF.tmp 0 rfl)) rfl ?_; clear hF; intro a hF
                                    refine r_take 3 hF rfl rfl rfl (by kernel_rfl) (by kernel_rfl) (by kernel_rfl) (fun _ _ _ h => h) rfl hS (fun w hS => x_move (hF.tmp 1 rfl)) rfl ?_; clear hF; intro a hF
                                    refine r_take 4 hF rfl rfl rfl (by kernel_rfl) (by kernel_rfl) (by kernel_rfl) (fun _ _ _ h => h) rfl hS (fun w hS => x_move (hF.tmp 0 rfl)) rfl ?_; clear hF; intro a hF
                                    refine r_take 5 hF rfl rfl rfl (by kernel_rfl) (by kernel_rfl) (by kernel_rfl) (fun _ _ _ h => h) rfl hS (fun w hS => x_move (hF.tmp 1 rfl)) rfl ?_; clear hF; intro a hF
                                    refine r_take 6 hF rfl rfl rfl (by kernel_rfl) (by kernel_rfl) (by kernel_rfl) (fun _ _ _ h => h) rfl hS (fun w hS => x_iaddrV Try.underlying72 ty5 (hH.row 900 rfl) (hF.tmp 157 rfl) (hF.tmp 158 rfl) (by omega) (by omega) _) rfl ?_; clear hF; intro a hF
                                    refine r_take 8 hF rfl rfl rfl (by kernel_rfl) (by kernel_rfl) (by kernel_rfl) (fun _ _ _ h => h) rfl hS (fun w hS => x_move (hF.tmp 0 rfl)) rfl ?_; clear hF; intro a hF
                                    refine r_take 9 hF rfl rfl rfl (by kernel_rfl) (by kernel_rfl) (by kernel_rfl) (fun _ _ _ h => h) rfl hS (fun w hS => x_move (hF.tmp 11 rfl)) rfl ?_; clear hF; intro a hF
                                    refine r_take 10 hF rfl rfl rfl (by kernel_rfl) (by kernel_rfl) (by kernel_rfl) (fun _ _ _ h => h) rfl hS (fun w hS => x_iaddrV Try.underlying72 ty5 (hH.row 900 rfl) (hF.tmp 161 rfl) (hF.tmp 162 rfl) (by omega) (by omega) _) rfl ?_; clear hF; intro a hF
                                    refine r_do2 7 11 rfl rfl (by kernel_rfl) rfl rfl rfl rfl ?_ ?_
                                    ·
                                      refine w_at hF (x_load1 ty5 (hF.tmp 159 rfl) ((Row.rdV (hH.row 900 rfl)).cellA (gi_some (xs := dk.toList) (i := (la : Int)) (by omega) (by omega)))) rfl rfl ?_
                                      clear hF; intro a hF
                                      clear hS; have hS : SL _ _ := SL.of hH (sub_nil _); refine ⟨hS, ?_⟩
                                      refine r_do 11 rfl (by kernel_rfl) rfl rfl ?_
                                      refine w_at hF (x_load1 ty5 (hF.tmp 163 rfl) ((Row.rdV (hH.row 900 rfl)).cellA (gi_some (xs := dk.toList) (i := (j8 : Int)) (by omega) (by omega)))) rfl rfl ?_
                                      clear hF; intro a hF
                                      clear hS; have hS : SL _ _ := SL.of hH (sub_nil _); refine ⟨hS, ?_⟩
                                      refine r_take 12 hF rfl rfl rfl (by kernel_rfl) (by kernel_rfl) (by kernel_rfl) (fun _ _ _ h => h) rfl hS (fun w hS => x_iaddrV Try.underlying72 ty5 (hH.row 900 rfl) (hF.tmp 153 rfl) (hF.tmp 154 rfl) (by omega) (by omega) _) rfl ?_; clear hF; intro a hF
                                      refine r_do 13 rfl (by kernel_rfl) rfl rfl ?_
                                      refine w_setV (xs := dk.toList) 900 j8 (gi dk.toList ((la : Nat) : Int)) hH ty5 rfl (by first | omega | (simp only [List.length_set]; omega)) (hF.tmp 165 rfl) (hF.tmp 160 rfl) ?_
                                      clear hH; intro w hH
                                      clear hS; have hS : SL _ _ := SL.of hH (sub_nil _); refine ⟨hS, ?_⟩
                                      refine r_take 14 hF rfl rfl rfl (by kernel_rfl) (by kernel_rfl) (by kernel_rfl) (fun _ _ _ h => h) rfl hS (fun w hS => x_iaddrV Try.underlying72 ty5 (hH.row 900 rfl) (hF.tmp 155 rfl) (hF.tmp 156 rfl) (by omega) (by first | omega | (simp only [List.length_set]; omega)) _) rfl ?_; clear hF; intro a hF
                                      refine r_do 15 rfl (by kernel_rfl) rfl rfl ?_
                                      refine w_setV (xs := (dk.toList.set j8 (gi dk.toList ((la : Nat) : Int)))) 900 la (gi dk.toList ((j8 : Nat) : Int)) hH ty5 rfl (by first | omega | (simp only [List.length_set]; omega)) (hF.tmp 166 rfl) (hF.tmp 164 rfl) ?_
                                      clear hH; intro w hH
                                      clear hS; have hS : SL _ _ := SL.of hH (sub_nil _); refine ⟨hS, ?_⟩
                                      have hH := hH.relab 900 (Y := .row RB 5 v (swp dk j8 la).toList (fun _ => False)) rfl (by rw [swp_list])
                                      refine r_end (by kernel_rfl) ?_; clear hS
                                      exact hJr21 _ _  (hF.bare.add hF 11 rfl) (hH.sub _ (sub_cons (sub_nil _) 900 rfl))
                                    ·
                                      refine w_at hF (x_load1 ty5 (hF.tmp 163 rfl) ((Row.rdV (hH.row 900 rfl)).cellA (gi_some (xs := dk.toList) (i := (j8 : Int)) (by omega) (by omega)))) rfl rfl ?_
                                      clear hF; intro a hF
                                      clear hS; have hS : SL _ _ := SL.of hH (sub_nil _); refine ⟨hS, ?_⟩
                                      refine r_do 7 rfl (by kernel_rfl) rfl rfl ?_
                                      refine w_at hF (x_load1 ty5 (hF.tmp 159 rfl) ((Row.rdV (hH.row 900 rfl)).cellA (gi_some (xs := dk.toList) (i := (la : Int)) (by omega) (by omega)))) rfl rfl ?_
                                      clear hF; intro a hF
                                      clear hS; have hS : SL _ _ := SL.of hH (sub_nil _); refine ⟨hS, ?_⟩
                                      refine r_take 12 hF rfl rfl rfl (by kernel_rfl) (by kernel_rfl) (by kernel_rfl) (fun _ _ _ h => h) rfl hS (fun w hS => x_iaddrV Try.underlying72 ty5 (hH.row 900 rfl) (hF.tmp 153 rfl) (hF.tmp 154 rfl) (by omega) (by omega) _) rfl ?_; clear hF; intro a hF
                                      refine r_do 13 rfl (by kernel_rfl) rfl rfl ?_
                                      refine w_setV (xs := dk.toList) 900 j8 (gi dk.toList ((la : Nat) : Int)) hH ty5 rfl (by first | omega | (simp only [List.length_set]; omega)) (hF.tmp 165 rfl) (hF.tmp 160 rfl) ?_
                                      clear hH; intro w hH
                                      clear hS; have hS : SL _ _ := SL.of hH (sub_nil _); refine ⟨hS, ?_⟩
                                      refine r_take 14 hF rfl rfl rfl (by kernel_rfl) (by kernel_rfl) (by kernel_rfl) (fun _ _ _ h => h) rfl hS (fun w hS => x_iaddrV Try.underlying72 ty5 (hH.row 900 rfl) (hF.tmp 155 rfl) (hF.tmp 156 rfl) (by omega) (by first | omega | (simp only [List.length_set]; omega)) _) rfl ?_; clear hF; intro a hF
                                      refine r_do 15 rfl (by kernel_rfl) rfl rfl ?_
                                      refine w_setV (xs := (dk.toList.set j8 (gi dk.toList ((la : Nat) : Int)))) 900 la (gi dk.toList ((j8 : Nat) : Int)) hH ty5 rfl (by first | omega | (simp only [List.length_set]; omega)) (hF.tmp 166 rfl) (hF.tmp 164 rfl) ?_
                                      clear hH; intro w hH
                                      clear hS; have hS : SL _ _ := SL.of hH (sub_nil _); refine ⟨hS, ?_⟩
                                      have hH := hH.relab 900 (Y := .row RB 5 v (swp dk j8 la).toList (fun _ => False)) rfl (by rw [swp_list])
                                      refine r_end (by kernel_rfl) ?_; clear hS
                                      exact hJr21 _ _  (hF.bare.add hF 11 rfl) (hH.sub _ (sub_cons (sub_nil _) 900 rfl))
                                  · have hk134_12 := hc134; try simp only [Bool.or_eq_true, Bool.and_eq_true, Bool.or_eq_false_iff, Bool.and_eq_false_iff, Bool.not_eq_true', Bool.not_eq_false', decide_eq_true_eq, decide_eq_false_iff_not, Bool.not_true, Bool.not_false] at hc134
                                    refine wp_skip ?_
                                    refine hK24 _ _ ?_
                                    refine wp_seq_k fun khK28 hK28 => ?_
                                    have hJr18 : ∀ a w, Fr 168 a [(0, v), (1, .int .i64 (la : Int)), (10, .int .i64 (i6 : Int)), (11, .int .i64 (j8 : Int))] → Hp (fun k => v.ownBlock = some k) w0 w [(900, .row RB 5 v (swp dk i6 j8).toList (fun _ => False))] → khK28 a w := by
                                      intro a w  hF hH
                                      refine hK28 a w ?_
                                      refine wp_seq_k fun khK29 hK29 => ?_
                                      refine wp_region_lit ?_
                                      refine l_at hF rfl rfl rfl (x_move (hF.tmp 10 rfl)) ?_; clear hF; intro a hF
                                      refine l_at hF rfl rfl rfl (x_add (hF.tmp 149 rfl) rfl (show IntKind.i64.wrap _ = ((i6 + 1 : Nat) : Int) from by rw [w64 (by omega) (by omega)] <;> omega)) ?_; clear hF; intro a hF
                                      refine l_at hF rfl rfl rfl (x_assign (hF.tmp 150 rfl)) ?_; clear hF; intro a hF
                                      refine wpList_nil ?_
                                      refine hK29 _ _ ?_
                                      refine wp_region_lit ?_
                                      refine l_at hF rfl rfl rfl (x_move (hF.tmp 11 rfl)) ?_; clear hF; intro a hF
                                      refine l_at hF rfl rfl rfl (x_sub (hF.tmp 151 rfl) rfl (show IntKind.i64.wrap _ = ((j8 - 1 : Nat) : Int) from by rw [w64 (by omega) (by omega)] <;> omega)) ?_; clear hF; intro a hF
                                      refine l_at hF rfl rfl rfl (x_assign (hF.tmp 152 rfl)) ?_; clear hF; intro a hF
                                      refine wpList_nil ?_
                                      exact ⟨_, by omega, ⟨i6 + 1, j8 - 1, (swp dk i6 j8), rfl, by omega, by omega, by omega, by omega, (by rw [Sx.swp_size]; exact hq4_4), (by rw [part_step (hq6_2 ▸ ho112) (hq8_3 ▸ ho129) (by omega) (by omega)]; exact hq4_5), ((((hF.bare.add hF 11 rfl).add hF 10 rfl).add hF 1 rfl).add hF 0 rfl), hH.sub _ (sub_cons (sub_nil _) 900 rfl)⟩⟩
                                    refine r_start [] (by kernel_rfl) hH fun hH => ?_
                                    have hS : SL [] _ := SL.of hH (sub_nil _)
                                    refine r_take 0 hF rfl rfl rfl (by kernel_rfl) (by kernel_rfl) (by kernel_rfl) (fun _ _ _ h => h) rfl hS (fun w hS => x_move (hF.tmp 0 rfl)) rfl ?_; clear hF; intro a hF
                                    refine r_take 1 hF rfl rfl rfl (by kernel_rfl) (by kernel_rfl) (by kernel_rfl) (fun _ _ _ h => h) rfl hS (fun w hS => x_move (hF.tmp 10 rfl)) rfl ?_; clear hF; intro a hF
                                    refine r_take 2 hF rfl rfl rfl (by kernel_rfl) (by kernel_rfl) (by kernel_rfl) (fun _ _ _ h => h) rfl hS (fun w hS => x_move (hF.tmp 0 rfl)) rfl ?_; clear hF; intro a hF
                                    refine r_take 3 hF rfl rfl rfl (by kernel_rfl) (by kernel_rfl) (by kernel_rfl) (fun _ _ _ h => h) rfl hS (fun w hS => x_move (hF.tmp 11 rfl)) rfl ?_; clear hF; intro a hF
                                    refine r_take 4 hF rfl rfl rfl (by kernel_rfl) (by kernel_rfl) (by kernel_rfl) (fun _ _ _ h => h) rfl hS (fun w hS => x_move (hF.tmp 0 rfl)) rfl ?_; clear hF; intro a hF
                                    refine r_take 5 hF rfl rfl rfl (by kernel_rfl) (by kernel_rfl) (by kernel_rfl) (fun _ _ _ h => h) rfl hS (fun w hS => x_move (hF.tmp 11 rfl)) rfl ?_; clear hF; intro a hF
                                    refine r_take 6 hF rfl rfl rfl (by kernel_rfl) (by kernel_rfl) (by kernel_rfl) (fun _ _ _ h => h) rfl hS (fun w hS => x_iaddrV Try.underlying72 ty5 (hH.row 900 rfl) (hF.tmp 139 rfl) (hF.tmp 140 rfl) (by omega) (by omega) _) rfl ?_; clear hF; intro a hF
                                    refine r_take 8 hF rfl rfl rfl (by kernel_rfl) (by kernel_rfl) (by kernel_rfl) (fun _ _ _ h => h) rfl hS (fun w hS => x_move (hF.tmp 0 rfl)) rfl ?_; clear hF; intro a hF
                                    refine r_take 9 hF rfl rfl rfl (by kernel_rfl) (by kernel_rfl) (by kernel_rfl) (fun _ _ _ h => h) rfl hS (fun w hS => x_move (hF.tmp 10 rfl)) rfl ?_; clear hF; intro a hF
                                    refine r_take 10 hF rfl rfl rfl (by kernel_rfl) (by kernel_rfl) (by kernel_rfl) (fun _ _ _ h => h) rfl hS (fun w hS => x_iaddrV Try.underlying72 ty5 (hH.row 900 rfl) (hF.tmp 143 rfl) (hF.tmp 144 rfl) (by omega) (by omega) _) rfl ?_; clear hF; intro a hF
                                    refine r_do2 7 11 rfl rfl (by kernel_rfl) rfl rfl rfl rfl ?_ ?_
                                    ·
                                      refine w_at hF (x_load1 ty5 (hF.tmp 141 rfl) ((Row.rdV (hH.row 900 rfl)).cellA (gi_some (xs := dk.toList) (i := (j8 : Int)) (by omega) (by omega)))) rfl rfl ?_
                                      clear hF; intro a hF
                                      clear hS; have hS : SL _ _ := SL.of hH (sub_nil _); refine ⟨hS, ?_⟩
                                      refine r_do 11 rfl (by kernel_rfl) rfl rfl ?_
                                      refine w_at hF (x_load1 ty5 (hF.tmp 145 rfl) ((Row.rdV (hH.row 900 rfl)).cellA (gi_some (xs := dk.toList) (i := (i6 : Int)) (by omega) (by omega)))) rfl rfl ?_
                                      clear hF; intro a hF
                                      clear hS; have hS : SL _ _ := SL.of hH (sub_nil _); refine ⟨hS, ?_⟩
                                      refine r_take 12 hF rfl rfl rfl (by kernel_rfl) (by kernel_rfl) (by kernel_rfl) (fun _ _ _ h => h) rfl hS (fun w hS => x_iaddrV Try.underlying72 ty5 (hH.row 900 rfl) (hF.tmp 135 rfl) (hF.tmp 136 rfl) (by omega) (by omega) _) rfl ?_; clear hF; intro a hF
                                      refine r_do 13 rfl (by kernel_rfl) rfl rfl ?_
                                      refine w_setV (xs := dk.toList) 900 i6 (gi dk.toList ((j8 : Nat) : Int)) hH ty5 rfl (by first | omega | (simp only [List.length_set]; omega)) (hF.tmp 147 rfl) (hF.tmp 142 rfl) ?_
                                      clear hH; intro w hH
                                      clear hS; have hS : SL _ _ := SL.of hH (sub_nil _); refine ⟨hS, ?_⟩
                                      refine r_take 14 hF rfl rfl rfl (by kernel_rfl) (by kernel_rfl) (by kernel_rfl) (fun _ _ _ h => h) rfl hS (fun w hS => x_iaddrV Try.underlying72 ty5 (hH.row 900 rfl) (hF.tmp 137 rfl) (hF.tmp 138 rfl) (by omega) (by first | omega | (simp only [List.length_set]; omega)) _) rfl ?_; clear hF; intro a hF
                                      refine r_do 15 rfl (by kernel_rfl) rfl rfl ?_
                                      refine w_setV (xs := (dk.toList.set i6 (gi dk.toList ((j8 : Nat) : Int)))) 900 j8 (gi dk.toList ((i6 : Nat) : Int)) hH ty5 rfl (by first | omega | (simp only [List.length_set]; omega)) (hF.tmp 148 rfl) (hF.tmp 146 rfl) ?_
                                      clear hH; intro w hH
                                      clear hS; have hS : SL _ _ := SL.of hH (sub_nil _); refine ⟨hS, ?_⟩
                                      have hH := hH.relab 900 (Y := .row RB 5 v (swp dk i6 j8).toList (fun _ => False)) rfl (by rw [swp_list])
                                      refine r_end (by kernel_rfl) ?_; clear hS
                                      exact hJr18 _ _  ((((hF.bare.add hF 11 rfl).add hF 10 rfl).add hF 1 rfl).add hF 0 rfl) (hH.sub _ (sub_cons (sub_nil _) 900 rfl))
                                    ·
                                      refine w_at hF (x_load1 ty5 (hF.tmp 145 rfl) ((Row.rdV (hH.row 900 rfl)).cellA (gi_some (xs := dk.toList) (i := (i6 : Int)) (by omega) (by omega)))) rfl rfl ?_
                                      clear hF; intro a hF
                                      clear hS; have hS : SL _ _ := SL.of hH (sub_nil _); refine ⟨hS, ?_⟩
                                      refine r_do 7 rfl (by kernel_rfl) rfl rfl ?_
                                      refine w_at hF (x_load1 ty5 (hF.tmp 141 rfl) ((Row.rdV (hH.row 900 rfl)).cellA (gi_some (xs := dk.toList) (i := (j8 : Int)) (by omega) (by omega)))) rfl rfl ?_
                                      clear hF; intro a hF
                                      clear hS; have hS : SL _ _ := SL.of hH (sub_nil _); refine ⟨hS, ?_⟩
                                      refine r_take 12 hF rfl rfl rfl (by kernel_rfl) (by kernel_rfl) (by kernel_rfl) (fun _ _ _ h => h) rfl hS (fun w hS => x_iaddrV Try.underlying72 ty5 (hH.row 900 rfl) (hF.tmp 135 rfl) (hF.tmp 136 rfl) (by omega) (by omega) _) rfl ?_; clear hF; intro a hF
                                      refine r_do 13 rfl (by kernel_rfl) rfl rfl ?_
                                      refine w_setV (xs := dk.toList) 900 i6 (gi dk.toList ((j8 : Nat) : Int)) hH ty5 rfl (by first | omega | (simp only [List.length_set]; omega)) (hF.tmp 147 rfl) (hF.tmp 142 rfl) ?_
                                      clear hH; intro w hH
                                      clear hS; have hS : SL _ _ := SL.of hH (sub_nil _); refine ⟨hS, ?_⟩
                                      refine r_take 14 hF rfl rfl rfl (by kernel_rfl) (by kernel_rfl) (by kernel_rfl) (fun _ _ _ h => h) rfl hS (fun w hS => x_iaddrV Try.underlying72 ty5 (hH.row 900 rfl) (hF.tmp 137 rfl) (hF.tmp 138 rfl) (by omega) (by first | omega | (simp only [List.length_set]; omega)) _) rfl ?_; clear hF; intro a hF
                                      refine r_do 15 rfl (by kernel_rfl) rfl rfl ?_
                                      refine w_setV (xs := (dk.toList.set i6 (gi dk.toList ((j8 : Nat) : Int)))) 900 j8 (gi dk.toList ((i6 : Nat) : Int)) hH ty5 rfl (by first | omega | (simp only [List.length_set]; omega)) (hF.tmp 148 rfl) (hF.tmp 146 rfl) ?_
                                      clear hH; intro w hH
                                      clear hS; have hS : SL _ _ := SL.of hH (sub_nil _); refine ⟨hS, ?_⟩
                                      have hH := hH.relab 900 (Y := .row RB 5 v (swp dk i6 j8).toList (fun _ => False)) rfl (by rw [swp_list])
                                      refine r_end (by kernel_rfl) ?_; clear hS
                                      exact hJr18 _ _  ((((hF.bare.add hF 11 rfl).add hF 10 rfl).add hF 1 rfl).add hF 0 rfl) (hH.sub _ (sub_cons (sub_nil _) 900 rfl))
                              refine r_start [(900, .row RB 5 v dk.toList (fun _ => False))] (by kernel_rfl) hH fun hH => ?_
                              have hS : SL [(900, .row RB 5 v dk.toList (fun _ => False))] _ := SL.of hH (sub_cons (sub_nil _) 900 rfl)
                              refine r_take 0 hF rfl rfl rfl (by kernel_rfl) (by kernel_rfl) (by kernel_rfl) (fun _ _ _ h => h) rfl hS (fun w hS => x_move (hF.tmp 10 rfl)) rfl ?_; clear hF; intro a hF
                              refine r_take 1 hF rfl rfl rfl (by kernel_rfl) (by kernel_rfl) (by kernel_rfl) (fun _ _ _ h => h) rfl hS (fun w hS => x_move (hF.tmp 11 rfl)) rfl ?_; clear hF; intro a hF
                              refine r_take 2 hF rfl rfl rfl (by kernel_rfl) (by kernel_rfl) (by kernel_rfl) (fun _ _ _ h => h) rfl hS (fun w hS => x_leq (hF.tmp 115 rfl) (hF.tmp 116 rfl)) rfl ?_; clear hF; intro a hF
                              refine r_take 3 hF rfl rfl rfl (by kernel_rfl) (by kernel_rfl) (by kernel_rfl) (fun _ _ _ h => h) rfl hS (fun w hS => x_move (hF.tmp 117 rfl)) rfl ?_; clear hF; intro a hF
                              refine split_bool hF 118 rfl (fun hb118 => ?_) (fun hb118 => ?_)
                              · have hc118 := hb118; try simp only [Bool.or_eq_true, Bool.and_eq_true, Bool.or_eq_false_iff, Bool.and_eq_false_iff, Bool.not_eq_true', Bool.not_eq_false', decide_eq_true_eq, decide_eq_false_iff_not, Bool.not_true, Bool.not_false] at hc118
                                refine r_take 4 hF rfl rfl rfl (by kernel_rfl) (by kernel_rfl) (by kernel_rfl) (fun _ _ _ h => h) ((wanted_of hF rfl rfl rfl rfl).trans (by rw [hb118]; rfl)) hS (fun w hS => x_move (hF.tmp 0 rfl)) rfl ?_; clear hF; intro a hF
                                refine r_take 5 hF rfl rfl rfl (by kernel_rfl) (by kernel_rfl) (by kernel_rfl) (fun _ _ _ h => h) ((wanted_of hF rfl rfl rfl rfl).trans (by rw [hb118]; rfl)) hS (fun w hS => x_move (hF.tmp 11 rfl)) rfl ?_; clear hF; intro a hF
                                refine r_take 6 hF rfl rfl rfl (by kernel_rfl) (by kernel_rfl) (by kernel_rfl) (fun _ _ _ h => h) ((wanted_of hF rfl rfl rfl rfl).trans (by rw [hb118]; rfl)) hS (fun w hS => x_iaddrV Try.underlying72 ty5 (hH.row 900 rfl) (hF.tmp 119 rfl) (hF.tmp 120 rfl) (by omega) (by omega) _) rfl ?_; clear hF; intro a hF
                                refine r_take 7 hF rfl rfl rfl (by kernel_rfl) (by kernel_rfl) (by kernel_rfl) (fun _ _ _ h => h) ((wanted_of hF rfl rfl rfl rfl).trans (by rw [hb118]; rfl)) hS (fun w hS => x_load1 ty5 (hF.tmp 121 rfl) ((Row.rdV (SL.row hS 900 rfl)).cellA (gi_some (xs := dk.toList) (i := (j8 : Int)) (by omega) (by omega)))) rfl ?_; clear hF; intro a hF
                                refine r_take 8 hF rfl rfl rfl (by kernel_rfl) (by kernel_rfl) (by kernel_rfl) (fun _ _ _ h => h) ((wanted_of hF rfl rfl rfl rfl).trans (by rw [hb118]; rfl)) hS (fun w hS => x_move (hF.tmp 0 rfl)) rfl ?_; clear hF; intro a hF
                                refine r_take 9 hF rfl rfl rfl (by kernel_rfl) (by kernel_rfl) (by kernel_rfl) (fun _ _ _ h => h) ((wanted_of hF rfl rfl rfl rfl).trans (by rw [hb118]; rfl)) hS (fun w hS => x_move (hF.tmp 1 rfl)) rfl ?_; clear hF; intro a hF
                                refine r_take 10 hF rfl rfl rfl (by kernel_rfl) (by kernel_rfl) (by kernel_rfl) (fun _ _ _ h => h) ((wanted_of hF rfl rfl rfl rfl).trans (by rw [hb118]; rfl)) hS (fun w hS => x_iaddrV Try.underlying72 ty5 (hH.row 900 rfl) (hF.tmp 123 rfl) (hF.tmp 124 rfl) (by omega) (by omega) _) rfl ?_; clear hF; intro a hF
                                refine r_take 11 hF rfl rfl rfl (by kernel_rfl) (by kernel_rfl) (by kernel_rfl) (fun _ _ _ h => h) ((wanted_of hF rfl rfl rfl rfl).trans (by rw [hb118]; rfl)) hS (fun w hS => x_load1 ty5 (hF.tmp 125 rfl) ((Row.rdV (SL.row hS 900 rfl)).cellA (gi_some (xs := dk.toList) (i := (la : Int)) (by omega) (by omega)))) rfl ?_; clear hF; intro a hF
                                refine r_do 12 rfl (by kernel_rfl) ((wanted_of hF rfl rfl rfl rfl).trans (by rw [hb118]; rfl)) rfl ?_
                                refine w_call hF (x_enter Try.func51 (by kernel_rfl) rfl (by simp only [List.map_toArray, List.map_cons, List.map_nil, hF.tmp 122 rfl, hF.tmp 126 rfl] <;> rfl)) (less_calls _ _ _) rfl rfl ?_
                                rintro _ w ⟨rfl, hm_⟩; refine ⟨_, rfl, ?_⟩; clear hF; intro a hF; have hH := hH.same hm_
                                clear hS; have hS : SL _ _ := SL.of hH (sub_cons (sub_nil _) 900 rfl); refine ⟨hS, ?_⟩
                                refine r_take 13 hF rfl rfl rfl (by kernel_rfl) (by kernel_rfl) (by kernel_rfl) (fun _ _ _ h => h) ((wanted_of hF rfl rfl rfl rfl).trans (by rw [hb118]; rfl)) hS (fun w hS => x_not (hF.tmp 127 rfl)) rfl ?_; clear hF; intro a hF
                                refine r_take 14 hF rfl rfl rfl (by kernel_rfl) (by kernel_rfl) (by kernel_rfl) (fun _ _ _ h => h) rfl hS (fun w hS => x_pickT (hF.tmp 118 rfl) hb118 (hF.tmp 128 rfl)) rfl ?_; clear hF; intro a hF
                                refine r_end (by kernel_rfl) ?_; clear hS
                                exact hJr15 _ _ (!(decide ((gi dk.toList (j8 : Int)) < (gi dk.toList (la : Int))))) (by first | exact sc_f (by omega) | exact sc_t (by omega) (lt_g _ _ _) | exact sc_t (by omega) (nlt_g _ _ _)) (((((hF.bare.add hF 129 rfl).add hF 11 rfl).add hF 10 rfl).add hF 1 rfl).add hF 0 rfl) (hH.sub _ (sub_cons (sub_nil _) 900 rfl))
                              · have hc118 := hb118; try simp only [Bool.or_eq_true, Bool.and_eq_true, Bool.or_eq_false_iff, Bool.and_eq_false_iff, Bool.not_eq_true', Bool.not_eq_false', decide_eq_true_eq, decide_eq_false_iff_not, Bool.not_true, Bool.not_false] at hc118
                                refine r_off 4 hF rfl rfl rfl (by kernel_rfl) (by kernel_rfl) (by kernel_rfl) (fun _ _ _ h => h) ((wanted_of hF rfl rfl rfl rfl).trans (by rw [hb118]; rfl)) hS rfl ?_; clear hF; intro a hF
                                refine r_off 5 hF rfl rfl rfl (by kernel_rfl) (by kernel_rfl) (by kernel_rfl) (fun _ _ _ h => h) ((wanted_of hF rfl rfl rfl rfl).trans (by rw [hb118]; rfl)) hS rfl ?_; clear hF; intro a hF
                                refine r_off 6 hF rfl rfl rfl (by kernel_rfl) (by kernel_rfl) (by kernel_rfl) (fun _ _ _ h => h) ((wanted_of hF rfl rfl rfl rfl).trans (by rw [hb118]; rfl)) hS rfl ?_; clear hF; intro a hF
                                refine r_off 7 hF rfl rfl rfl (by kernel_rfl) (by kernel_rfl) (by kernel_rfl) (fun _ _ _ h => h) ((wanted_of hF rfl rfl rfl rfl).trans (by rw [hb118]; rfl)) hS rfl ?_; clear hF; intro a hF
                                refine r_off 8 hF rfl rfl rfl (by kernel_rfl) (by kernel_rfl) (by kernel_rfl) (fun _ _ _ h => h) ((wanted_of hF rfl rfl rfl rfl).trans (by rw [hb118]; rfl)) hS rfl ?_; clear hF; intro a hF
                                refine r_off 9 hF rfl rfl rfl (by kernel_rfl) (by kernel_rfl) (by kernel_rfl) (fun _ _ _ h => h) ((wanted_of hF rfl rfl rfl rfl).trans (by rw [hb118]; rfl)) hS rfl ?_; clear hF; intro a hF
                                refine r_off 10 hF rfl rfl rfl (by kernel_rfl) (by kernel_rfl) (by kernel_rfl) (fun _ _ _ h => h) ((wanted_of hF rfl rfl rfl rfl).trans (by rw [hb118]; rfl)) hS rfl ?_; clear hF; intro a hF
                                refine r_off 11 hF rfl rfl rfl (by kernel_rfl) (by kernel_rfl) (by kernel_rfl) (fun _ _ _ h => h) ((wanted_of hF rfl rfl rfl rfl).trans (by rw [hb118]; rfl)) hS rfl ?_; clear hF; intro a hF
                                refine r_off 12 hF rfl rfl rfl (by kernel_rfl) (by kernel_rfl) (by kernel_rfl) (fun _ _ _ h => h) ((wanted_of hF rfl rfl rfl rfl).trans (by rw [hb118]; rfl)) hS rfl ?_; clear hF; intro a hF
                                refine r_off 13 hF rfl rfl rfl (by kernel_rfl) (by kernel_rfl) (by kernel_rfl) (fun _ _ _ h => h) ((wanted_of hF rfl rfl rfl rfl).trans (by rw [hb118]; rfl)) hS rfl ?_; clear hF; intro a hF
                                refine r_take 14 hF rfl rfl rfl (by kernel_rfl) (by kernel_rfl) (by kernel_rfl) (fun _ _ _ h => h) rfl hS (fun w hS => x_pickF (hF.tmp 118 rfl) hb118 rfl) rfl ?_; clear hF; intro a hF
                                refine r_end (by kernel_rfl) ?_; clear hS
                                exact hJr15 _ _ false (by first | exact sc_f (by omega) | exact sc_t (by omega) (lt_g _ _ _) | exact sc_t (by omega) (nlt_g _ _ _)) (((((hF.bare.add hF 129 rfl).add hF 11 rfl).add hF 10 rfl).add hF 1 rfl).add hF 0 rfl) (hH.sub _ (sub_cons (sub_nil _) 900 rfl))
                        refine r_start [(900, .row RB 5 v dk.toList (fun _ => False))] (by kernel_rfl) hH fun hH => ?_
                        have hS : SL [(900, .row RB 5 v dk.toList (fun _ => False))] _ := SL.of hH (sub_cons (sub_nil _) 900 rfl)
                        refine r_take 0 hF rfl rfl rfl (by kernel_rfl) (by kernel_rfl) (by kernel_rfl) (fun _ _ _ h => h) rfl hS (fun w hS => x_move (hF.tmp 10 rfl)) rfl ?_; clear hF; intro a hF
                        refine r_take 1 hF rfl rfl rfl (by kernel_rfl) (by kernel_rfl) (by kernel_rfl) (fun _ _ _ h => h) rfl hS (fun w hS => x_move (hF.tmp 11 rfl)) rfl ?_; clear hF; intro a hF
                        refine r_take 2 hF rfl rfl rfl (by kernel_rfl) (by kernel_rfl) (by kernel_rfl) (fun _ _ _ h => h) rfl hS (fun w hS => x_leq (hF.tmp 99 rfl) (hF.tmp 100 rfl)) rfl ?_; clear hF; intro a hF
                        refine r_take 3 hF rfl rfl rfl (by kernel_rfl) (by kernel_rfl) (by kernel_rfl) (fun _ _ _ h => h) rfl hS (fun w hS => x_move (hF.tmp 101 rfl)) rfl ?_; clear hF; intro a hF
                        refine split_bool hF 102 rfl (fun hb102 => ?_) (fun hb102 => ?_)
                        · have hc102 := hb102; try simp only [Bool.or_eq_true, Bool.and_eq_true, Bool.or_eq_false_iff, Bool.and_eq_false_iff, Bool.not_eq_true', Bool.not_eq_false', decide_eq_true_eq, decide_eq_false_iff_not, Bool.not_true, Bool.not_false] at hc102
                          refine r_take 4 hF rfl rfl rfl (by kernel_rfl) (by kernel_rfl) (by kernel_rfl) (fun _ _ _ h => h) ((wanted_of hF rfl rfl rfl rfl).trans (by rw [hb102]; rfl)) hS (fun w hS => x_move (hF.tmp 0 rfl)) rfl ?_; clear hF; intro a hF
                          refine r_take 5 hF rfl rfl rfl (by kernel_rfl) (by kernel_rfl) (by kernel_rfl) (fun _ _ _ h => h) ((wanted_of hF rfl rfl rfl rfl).trans (by rw [hb102]; rfl)) hS (fun w hS => x_move (hF.tmp 10 rfl)) rfl ?_; clear hF; intro a hF
                          refine r_take 6 hF rfl rfl rfl (by kernel_rfl) (by kernel_rfl) (by kernel_rfl) (fun _ _ _ h => h) ((wanted_of hF rfl rfl rfl rfl).trans (by rw [hb102]; rfl)) hS (fun w hS => x_iaddrV Try.underlying72 ty5 (hH.row 900 rfl) (hF.tmp 103 rfl) (hF.tmp 104 rfl) (by omega) (by omega) _) rfl ?_; clear hF; intro a hF
                          refine r_take 7 hF rfl rfl rfl (by kernel_rfl) (by kernel_rfl) (by kernel_rfl) (fun _ _ _ h => h) ((wanted_of hF rfl rfl rfl rfl).trans (by rw [hb102]; rfl)) hS (fun w hS => x_load1 ty5 (hF.tmp 105 rfl) ((Row.rdV (SL.row hS 900 rfl)).cellA (gi_some (xs := dk.toList) (i := (i6 : Int)) (by omega) (by omega)))) rfl ?_; clear hF; intro a hF
                          refine r_take 8 hF rfl rfl rfl (by kernel_rfl) (by kernel_rfl) (by kernel_rfl) (fun _ _ _ h => h) ((wanted_of hF rfl rfl rfl rfl).trans (by rw [hb102]; rfl)) hS (fun w hS => x_move (hF.tmp 0 rfl)) rfl ?_; clear hF; intro a hF
                          refine r_take 9 hF rfl rfl rfl (by kernel_rfl) (by kernel_rfl) (by kernel_rfl) (fun _ _ _ h => h) ((wanted_of hF rfl rfl rfl rfl).trans (by rw [hb102]; rfl)) hS (fun w hS => x_move (hF.tmp 1 rfl)) rfl ?_; clear hF; intro a hF
                          refine r_take 10 hF rfl rfl rfl (by kernel_rfl) (by kernel_rfl) (by kernel_rfl) (fun _ _ _ h => h) ((wanted_of hF rfl rfl rfl rfl).trans (by rw [hb102]; rfl)) hS (fun w hS => x_iaddrV Try.underlying72 ty5 (hH.row 900 rfl) (hF.tmp 107 rfl) (hF.tmp 108 rfl) (by omega) (by omega) _) rfl ?_; clear hF; intro a hF
                          refine r_take 11 hF rfl rfl rfl (by kernel_rfl) (by kernel_rfl) (by kernel_rfl) (fun _ _ _ h => h) ((wanted_of hF rfl rfl rfl rfl).trans (by rw [hb102]; rfl)) hS (fun w hS => x_load1 ty5 (hF.tmp 109 rfl) ((Row.rdV (SL.row hS 900 rfl)).cellA (gi_some (xs := dk.toList) (i := (la : Int)) (by omega) (by omega)))) rfl ?_; clear hF; intro a hF
                          refine r_do 12 rfl (by kernel_rfl) ((wanted_of hF rfl rfl rfl rfl).trans (by rw [hb102]; rfl)) rfl ?_
                          refine w_call hF (x_enter Try.func51 (by kernel_rfl) rfl (by simp only [List.map_toArray, List.map_cons, List.map_nil, hF.tmp 106 rfl, hF.tmp 110 rfl] <;> rfl)) (less_calls _ _ _) rfl rfl ?_
                          rintro _ w ⟨rfl, hm_⟩; refine ⟨_, rfl, ?_⟩; clear hF; intro a hF; have hH := hH.same hm_
                          clear hS; have hS : SL _ _ := SL.of hH (sub_cons (sub_nil _) 900 rfl); refine ⟨hS, ?_⟩
                          refine r_take 13 hF rfl rfl rfl (by kernel_rfl) (by kernel_rfl) (by kernel_rfl) (fun _ _ _ h => h) rfl hS (fun w hS => x_pickT (hF.tmp 102 rfl) hb102 (hF.tmp 111 rfl)) rfl ?_; clear hF; intro a hF
                          refine r_end (by kernel_rfl) ?_; clear hS
                          exact hJr13 _ _ (decide ((gi dk.toList (i6 : Int)) < (gi dk.toList (la : Int)))) (by first | exact sc_f (by omega) | exact sc_t (by omega) (lt_g _ _ _) | exact sc_t (by omega) (nlt_g _ _ _)) (((((hF.bare.add hF 112 rfl).add hF 11 rfl).add hF 10 rfl).add hF 1 rfl).add hF 0 rfl) (hH.sub _ (sub_cons (sub_nil _) 900 rfl))
                        · have hc102 := hb102; try simp only [Bool.or_eq_true, Bool.and_eq_true, Bool.or_eq_false_iff, Bool.and_eq_false_iff, Bool.not_eq_true', Bool.not_eq_false', decide_eq_true_eq, decide_eq_false_iff_not, Bool.not_true, Bool.not_false] at hc102
                          refine r_off 4 hF rfl rfl rfl (by kernel_rfl) (by kernel_rfl) (by kernel_rfl) (fun _ _ _ h => h) ((wanted_of hF rfl rfl rfl rfl).trans (by rw [hb102]; rfl)) hS rfl ?_; clear hF; intro a hF
                          refine r_off 5 hF rfl rfl rfl (by kernel_rfl) (by kernel_rfl) (by kernel_rfl) (fun _ _ _ h => h) ((wanted_of hF rfl rfl rfl rfl).trans (by rw [hb102]; rfl)) hS rfl ?_; clear hF; intro a hF
                          refine r_off 6 hF rfl rfl rfl (by kernel_rfl) (by kernel_rfl) (by kernel_rfl) (fun _ _ _ h => h) ((wanted_of hF rfl rfl rfl rfl).trans (by rw [hb102]; rfl)) hS rfl ?_; clear hF; intro a hF
                          refine r_off 7 hF rfl rfl rfl (by kernel_rfl) (by kernel_rfl) (by kernel_rfl) (fun _ _ _ h => h) ((wanted_of hF rfl rfl rfl rfl).trans (by rw [hb102]; rfl)) hS rfl ?_; clear hF; intro a hF
                          refine r_off 8 hF rfl rfl rfl (by kernel_rfl) (by kernel_rfl) (by kernel_rfl) (fun _ _ _ h => h) ((wanted_of hF rfl rfl rfl rfl).trans (by rw [hb102]; rfl)) hS rfl ?_; clear hF; intro a hF
                          refine r_off 9 hF rfl rfl rfl (by kernel_rfl) (by kernel_rfl) (by kernel_rfl) (fun _ _ _ h => h) ((wanted_of hF rfl rfl rfl rfl).trans (by rw [hb102]; rfl)) hS rfl ?_; clear hF; intro a hF
                          refine r_off 10 hF rfl rfl rfl (by kernel_rfl) (by kernel_rfl) (by kernel_rfl) (fun _ _ _ h => h) ((wanted_of hF rfl rfl rfl rfl).trans (by rw [hb102]; rfl)) hS rfl ?_; clear hF; intro a hF
                          refine r_off 11 hF rfl rfl rfl (by kernel_rfl) (by kernel_rfl) (by kernel_rfl) (fun _ _ _ h => h) ((wanted_of hF rfl rfl rfl rfl).trans (by rw [hb102]; rfl)) hS rfl ?_; clear hF; intro a hF
                          refine r_off 12 hF rfl rfl rfl (by kernel_rfl) (by kernel_rfl) (by kernel_rfl) (fun _ _ _ h => h) ((wanted_of hF rfl rfl rfl rfl).trans (by rw [hb102]; rfl)) hS rfl ?_; clear hF; intro a hF
                          refine r_take 13 hF rfl rfl rfl (by kernel_rfl) (by kernel_rfl) (by kernel_rfl) (fun _ _ _ h => h) rfl hS (fun w hS => x_pickF (hF.tmp 102 rfl) hb102 rfl) rfl ?_; clear hF; intro a hF
                          refine r_end (by kernel_rfl) ?_; clear hS
                          exact hJr13 _ _ false (by first | exact sc_f (by omega) | exact sc_t (by omega) (lt_g _ _ _) | exact sc_t (by omega) (nlt_g _ _ _)) (((((hF.bare.add hF 112 rfl).add hF 11 rfl).add hF 10 rfl).add hF 1 rfl).add hF 0 rfl) (hH.sub _ (sub_cons (sub_nil _) 900 rfl))
                  refine r_start [] (by kernel_rfl) hH fun hH => ?_
                  have hS : SL [] _ := SL.of hH (sub_nil _)
                  refine r_take 0 hF rfl rfl rfl (by kernel_rfl) (by kernel_rfl) (by kernel_rfl) (fun _ _ _ h => h) rfl hS (fun w hS => x_move (hF.tmp 0 rfl)) rfl ?_; clear hF; intro a hF
                  refine r_take 1 hF rfl rfl rfl (by kernel_rfl) (by kernel_rfl) (by kernel_rfl) (fun _ _ _ h => h) rfl hS (fun w hS => x_move (hF.tmp 10 rfl)) rfl ?_; clear hF; intro a hF
                  refine r_take 2 hF rfl rfl rfl (by kernel_rfl) (by kernel_rfl) (by kernel_rfl) (fun _ _ _ h => h) rfl hS (fun w hS => x_move (hF.tmp 0 rfl)) rfl ?_; clear hF; intro a hF
                  refine r_take 3 hF rfl rfl rfl (by kernel_rfl) (by kernel_rfl) (by kernel_rfl) (fun _ _ _ h => h) rfl hS (fun w hS => x_move (hF.tmp 11 rfl)) rfl ?_; clear hF; intro a hF
                  refine r_take 4 hF rfl rfl rfl (by kernel_rfl) (by kernel_rfl) (by kernel_rfl) (fun _ _ _ h => h) rfl hS (fun w hS => x_move (hF.tmp 0 rfl)) rfl ?_; clear hF; intro a hF
                  refine r_take 5 hF rfl rfl rfl (by kernel_rfl) (by kernel_rfl) (by kernel_rfl) (fun _ _ _ h => h) rfl hS (fun w hS => x_move (hF.tmp 11 rfl)) rfl ?_; clear hF; intro a hF
                  refine r_take 6 hF rfl rfl rfl (by kernel_rfl) (by kernel_rfl) (by kernel_rfl) (fun _ _ _ h => h) rfl hS (fun w hS => x_iaddrV Try.underlying72 ty5 (hH.row 900 rfl) (hF.tmp 85 rfl) (hF.tmp 86 rfl) (by omega) (by omega) _) rfl ?_; clear hF; intro a hF
                  refine r_take 8 hF rfl rfl rfl (by kernel_rfl) (by kernel_rfl) (by kernel_rfl) (fun _ _ _ h => h) rfl hS (fun w hS => x_move (hF.tmp 0 rfl)) rfl ?_; clear hF; intro a hF
                  refine r_take 9 hF rfl rfl rfl (by kernel_rfl) (by kernel_rfl) (by kernel_rfl) (fun _ _ _ h => h) rfl hS (fun w hS => x_move (hF.tmp 10 rfl)) rfl ?_; clear hF; intro a hF
                  refine r_take 10 hF rfl rfl rfl (by kernel_rfl) (by kernel_rfl) (by kernel_rfl) (fun _ _ _ h => h) rfl hS (fun w hS => x_iaddrV Try.underlying72 ty5 (hH.row 900 rfl) (hF.tmp 89 rfl) (hF.tmp 90 rfl) (by omega) (by omega) _) rfl ?_; clear hF; intro a hF
                  refine r_do2 7 11 rfl rfl (by kernel_rfl) rfl rfl rfl rfl ?_ ?_
                  ·
                    refine w_at hF (x_load1 ty5 (hF.tmp 87 rfl) ((Row.rdV (hH.row 900 rfl)).cellA (gi_some (xs := d1.toList) (i := (j : Int)) (by omega) (by omega)))) rfl rfl ?_
                    clear hF; intro a hF
                    clear hS; have hS : SL _ _ := SL.of hH (sub_nil _); refine ⟨hS, ?_⟩
                    refine r_do 11 rfl (by kernel_rfl) rfl rfl ?_
                    refine w_at hF (x_load1 ty5 (hF.tmp 91 rfl) ((Row.rdV (hH.row 900 rfl)).cellA (gi_some (xs := d1.toList) (i := (i : Int)) (by omega) (by omega)))) rfl rfl ?_
                    clear hF; intro a hF
                    clear hS; have hS : SL _ _ := SL.of hH (sub_nil _); refine ⟨hS, ?_⟩
                    refine r_take 12 hF rfl rfl rfl (by kernel_rfl) (by kernel_rfl) (by kernel_rfl) (fun _ _ _ h => h) rfl hS (fun w hS => x_iaddrV Try.underlying72 ty5 (hH.row 900 rfl) (hF.tmp 81 rfl) (hF.tmp 82 rfl) (by omega) (by omega) _) rfl ?_; clear hF; intro a hF
                    refine r_do 13 rfl (by kernel_rfl) rfl rfl ?_
                    refine w_setV (xs := d1.toList) 900 i (gi d1.toList ((j : Nat) : Int)) hH ty5 rfl (by first | omega | (simp only [List.length_set]; omega)) (hF.tmp 93 rfl) (hF.tmp 88 rfl) ?_
                    clear hH; intro w hH
                    clear hS; have hS : SL _ _ := SL.of hH (sub_nil _); refine ⟨hS, ?_⟩
                    refine r_take 14 hF rfl rfl rfl (by kernel_rfl) (by kernel_rfl) (by kernel_rfl) (fun _ _ _ h => h) rfl hS (fun w hS => x_iaddrV Try.underlying72 ty5 (hH.row 900 rfl) (hF.tmp 83 rfl) (hF.tmp 84 rfl) (by omega) (by first | omega | (simp only [List.length_set]; omega)) _) rfl ?_; clear hF; intro a hF
                    refine r_do 15 rfl (by kernel_rfl) rfl rfl ?_
                    refine w_setV (xs := (d1.toList.set i (gi d1.toList ((j : Nat) : Int)))) 900 j (gi d1.toList ((i : Nat) : Int)) hH ty5 rfl (by first | omega | (simp only [List.length_set]; omega)) (hF.tmp 94 rfl) (hF.tmp 92 rfl) ?_
                    clear hH; intro w hH
                    clear hS; have hS : SL _ _ := SL.of hH (sub_nil _); refine ⟨hS, ?_⟩
                    have hH := hH.relab 900 (Y := .row RB 5 v (swp d1 i j).toList (fun _ => False)) rfl (by rw [swp_list])
                    refine r_end (by kernel_rfl) ?_; clear hS
                    exact hJr10 _ _  ((((hF.bare.add hF 11 rfl).add hF 10 rfl).add hF 1 rfl).add hF 0 rfl) (hH.sub _ (sub_cons (sub_nil _) 900 rfl))
                  ·
                    refine w_at hF (x_load1 ty5 (hF.tmp 91 rfl) ((Row.rdV (hH.row 900 rfl)).cellA (gi_some (xs := d1.toList) (i := (i : Int)) (by omega) (by omega)))) rfl rfl ?_
                    clear hF; intro a hF
                    clear hS; have hS : SL _ _ := SL.of hH (sub_nil _); refine ⟨hS, ?_⟩
                    refine r_do 7 rfl (by kernel_rfl) rfl rfl ?_
                    refine w_at hF (x_load1 ty5 (hF.tmp 87 rfl) ((Row.rdV (hH.row 900 rfl)).cellA (gi_some (xs := d1.toList) (i := (j : Int)) (by omega) (by omega)))) rfl rfl ?_
                    clear hF; intro a hF
                    clear hS; have hS : SL _ _ := SL.of hH (sub_nil _); refine ⟨hS, ?_⟩
                    refine r_take 12 hF rfl rfl rfl (by kernel_rfl) (by kernel_rfl) (by kernel_rfl) (fun _ _ _ h => h) rfl hS (fun w hS => x_iaddrV Try.underlying72 ty5 (hH.row 900 rfl) (hF.tmp 81 rfl) (hF.tmp 82 rfl) (by omega) (by omega) _) rfl ?_; clear hF; intro a hF
                    refine r_do 13 rfl (by kernel_rfl) rfl rfl ?_
                    refine w_setV (xs := d1.toList) 900 i (gi d1.toList ((j : Nat) : Int)) hH ty5 rfl (by first | omega | (simp only [List.length_set]; omega)) (hF.tmp 93 rfl) (hF.tmp 88 rfl) ?_
                    clear hH; intro w hH
                    clear hS; have hS : SL _ _ := SL.of hH (sub_nil _); refine ⟨hS, ?_⟩
                    refine r_take 14 hF rfl rfl rfl (by kernel_rfl) (by kernel_rfl) (by kernel_rfl) (fun _ _ _ h => h) rfl hS (fun w hS => x_iaddrV Try.underlying72 ty5 (hH.row 900 rfl) (hF.tmp 83 rfl) (hF.tmp 84 rfl) (by omega) (by first | omega | (simp only [List.length_set]; omega)) _) rfl ?_; clear hF; intro a hF
                    refine r_do 15 rfl (by kernel_rfl) rfl rfl ?_
                    refine w_setV (xs := (d1.toList.set i (gi d1.toList ((j : Nat) : Int)))) 900 j (gi d1.toList ((i : Nat) : Int)) hH ty5 rfl (by first | omega | (simp only [List.length_set]; omega)) (hF.tmp 94 rfl) (hF.tmp 92 rfl) ?_
                    clear hH; intro w hH
                    clear hS; have hS : SL _ _ := SL.of hH (sub_nil _); refine ⟨hS, ?_⟩
                    have hH := hH.relab 900 (Y := .row RB 5 v (swp d1 i j).toList (fun _ => False)) rfl (by rw [swp_list])
                    refine r_end (by kernel_rfl) ?_; clear hS
                    exact hJr10 _ _  ((((hF.bare.add hF 11 rfl).add hF 10 rfl).add hF 1 rfl).add hF 0 rfl) (hH.sub _ (sub_cons (sub_nil _) 900 rfl))
            refine r_start [(900, .row RB 5 v d1.toList (fun _ => False))] (by kernel_rfl) hH fun hH => ?_
            have hS : SL [(900, .row RB 5 v d1.toList (fun _ => False))] _ := SL.of hH (sub_cons (sub_nil _) 900 rfl)
            refine r_take 0 hF rfl rfl rfl (by kernel_rfl) (by kernel_rfl) (by kernel_rfl) (fun _ _ _ h => h) rfl hS (fun w hS => x_move (hF.tmp 10 rfl)) rfl ?_; clear hF; intro a hF
            refine r_take 1 hF rfl rfl rfl (by kernel_rfl) (by kernel_rfl) (by kernel_rfl) (fun _ _ _ h => h) rfl hS (fun w hS => x_move (hF.tmp 11 rfl)) rfl ?_; clear hF; intro a hF
            refine r_take 2 hF rfl rfl rfl (by kernel_rfl) (by kernel_rfl) (by kernel_rfl) (fun _ _ _ h => h) rfl hS (fun w hS => x_leq (hF.tmp 46 rfl) (hF.tmp 47 rfl)) rfl ?_; clear hF; intro a hF
            refine r_take 3 hF rfl rfl rfl (by kernel_rfl) (by kernel_rfl) (by kernel_rfl) (fun _ _ _ h => h) rfl hS (fun w hS => x_move (hF.tmp 48 rfl)) rfl ?_; clear hF; intro a hF
            refine split_bool hF 49 rfl (fun hb49 => ?_) (fun hb49 => ?_)
            · have hc49 := hb49; try simp only [Bool.or_eq_true, Bool.and_eq_true, Bool.or_eq_false_iff, Bool.and_eq_false_iff, Bool.not_eq_true', Bool.not_eq_false', decide_eq_true_eq, decide_eq_false_iff_not, Bool.not_true, Bool.not_false] at hc49
              refine r_take 4 hF rfl rfl rfl (by kernel_rfl) (by kernel_rfl) (by kernel_rfl) (fun _ _ _ h => h) ((wanted_of hF rfl rfl rfl rfl).trans (by rw [hb49]; rfl)) hS (fun w hS => x_move (hF.tmp 0 rfl)) rfl ?_; clear hF; intro a hF
              refine r_take 5 hF rfl rfl rfl (by kernel_rfl) (by kernel_rfl) (by kernel_rfl) (fun _ _ _ h => h) ((wanted_of hF rfl rfl rfl rfl).trans (by rw [hb49]; rfl)) hS (fun w hS => x_move (hF.tmp 11 rfl)) rfl ?_; clear hF; intro a hF
              refine r_take 6 hF rfl rfl rfl (by kernel_rfl) (by kernel_rfl) (by kernel_rfl) (fun _ _ _ h => h) ((wanted_of hF rfl rfl rfl rfl).trans (by rw [hb49]; rfl)) hS (fun w hS => x_iaddrV Try.underlying72 ty5 (hH.row 900 rfl) (hF.tmp 50 rfl) (hF.tmp 51 rfl) (by omega) (by omega) _) rfl ?_; clear hF; intro a hF
              refine r_take 7 hF rfl rfl rfl (by kernel_rfl) (by kernel_rfl) (by kernel_rfl) (fun _ _ _ h => h) ((wanted_of hF rfl rfl rfl rfl).trans (by rw [hb49]; rfl)) hS (fun w hS => x_load1 ty5 (hF.tmp 52 rfl) ((Row.rdV (SL.row hS 900 rfl)).cellA (gi_some (xs := d1.toList) (i := (j : Int)) (by omega) (by omega)))) rfl ?_; clear hF; intro a hF
              refine r_take 8 hF rfl rfl rfl (by kernel_rfl) (by kernel_rfl) (by kernel_rfl) (fun _ _ _ h => h) ((wanted_of hF rfl rfl rfl rfl).trans (by rw [hb49]; rfl)) hS (fun w hS => x_move (hF.tmp 0 rfl)) rfl ?_; clear hF; intro a hF
              refine r_take 9 hF rfl rfl rfl (by kernel_rfl) (by kernel_rfl) (by kernel_rfl) (fun _ _ _ h => h) ((wanted_of hF rfl rfl rfl rfl).trans (by rw [hb49]; rfl)) hS (fun w hS => x_move (hF.tmp 1 rfl)) rfl ?_; clear hF; intro a hF
              refine r_take 10 hF rfl rfl rfl (by kernel_rfl) (by kernel_rfl) (by kernel_rfl) (fun _ _ _ h => h) ((wanted_of hF rfl rfl rfl rfl).trans (by rw [hb49]; rfl)) hS (fun w hS => x_iaddrV Try.underlying72 ty5 (hH.row 900 rfl) (hF.tmp 54 rfl) (hF.tmp 55 rfl) (by omega) (by omega) _) rfl ?_; clear hF; intro a hF
              refine r_take 11 hF rfl rfl rfl (by kernel_rfl) (by kernel_rfl) (by kernel_rfl) (fun _ _ _ h => h) ((wanted_of hF rfl rfl rfl rfl).trans (by rw [hb49]; rfl)) hS (fun w hS => x_load1 ty5 (hF.tmp 56 rfl) ((Row.rdV (SL.row hS 900 rfl)).cellA (gi_some (xs := d1.toList) (i := (la : Int)) (by omega) (by omega)))) rfl ?_; clear hF; intro a hF
              refine r_do 12 rfl (by kernel_rfl) ((wanted_of hF rfl rfl rfl rfl).trans (by rw [hb49]; rfl)) rfl ?_
              refine w_call hF (x_enter Try.func51 (by kernel_rfl) rfl (by simp only [List.map_toArray, List.map_cons, List.map_nil, hF.tmp 53 rfl, hF.tmp 57 rfl] <;> rfl)) (less_calls _ _ _) rfl rfl ?_
              rintro _ w ⟨rfl, hm_⟩; refine ⟨_, rfl, ?_⟩; clear hF; intro a hF; have hH := hH.same hm_
              clear hS; have hS : SL _ _ := SL.of hH (sub_cons (sub_nil _) 900 rfl); refine ⟨hS, ?_⟩
              refine r_take 13 hF rfl rfl rfl (by kernel_rfl) (by kernel_rfl) (by kernel_rfl) (fun _ _ _ h => h) ((wanted_of hF rfl rfl rfl rfl).trans (by rw [hb49]; rfl)) hS (fun w hS => x_not (hF.tmp 58 rfl)) rfl ?_; clear hF; intro a hF
              refine r_take 14 hF rfl rfl rfl (by kernel_rfl) (by kernel_rfl) (by kernel_rfl) (fun _ _ _ h => h) rfl hS (fun w hS => x_pickT (hF.tmp 49 rfl) hb49 (hF.tmp 59 rfl)) rfl ?_; clear hF; intro a hF
              refine r_end (by kernel_rfl) ?_; clear hS
              exact hJr5 _ _ (!(decide ((gi d1.toList (j : Int)) < (gi d1.toList (la : Int))))) (by first | exact sc_f (by omega) | exact sc_t (by omega) (lt_g _ _ _) | exact sc_t (by omega) (nlt_g _ _ _)) (((((hF.bare.add hF 60 rfl).add hF 11 rfl).add hF 10 rfl).add hF 1 rfl).add hF 0 rfl) (hH.sub _ (sub_cons (sub_nil _) 900 rfl))
            · have hc49 := hb49; try simp only [Bool.or_eq_true, Bool.and_eq_true, Bool.or_eq_false_iff, Bool.and_eq_false_iff, Bool.not_eq_true', Bool.not_eq_false', decide_eq_true_eq, decide_eq_false_iff_not, Bool.not_true, Bool.not_false] at hc49
              refine r_off 4 hF rfl rfl rfl (by kernel_rfl) (by kernel_rfl) (by kernel_rfl) (fun _ _ _ h => h) ((wanted_of hF rfl rfl rfl rfl).trans (by rw [hb49]; rfl)) hS rfl ?_; clear hF; intro a hF
              refine r_off 5 hF rfl rfl rfl (by kernel_rfl) (by kernel_rfl) (by kernel_rfl) (fun _ _ _ h => h) ((wanted_of hF rfl rfl rfl rfl).trans (by rw [hb49]; rfl)) hS rfl ?_; clear hF; intro a hF
              refine r_off 6 hF rfl rfl rfl (by kernel_rfl) (by kernel_rfl) (by kernel_rfl) (fun _ _ _ h => h) ((wanted_of hF rfl rfl rfl rfl).trans (by rw [hb49]; rfl)) hS rfl ?_; clear hF; intro a hF
              refine r_off 7 hF rfl rfl rfl (by kernel_rfl) (by kernel_rfl) (by kernel_rfl) (fun _ _ _ h => h) ((wanted_of hF rfl rfl rfl rfl).trans (by rw [hb49]; rfl)) hS rfl ?_; clear hF; intro a hF
              refine r_off 8 hF rfl rfl rfl (by kernel_rfl) (by kernel_rfl) (by kernel_rfl) (fun _ _ _ h => h) ((wanted_of hF rfl rfl rfl rfl).trans (by rw [hb49]; rfl)) hS rfl ?_; clear hF; intro a hF
              refine r_off 9 hF rfl rfl rfl (by kernel_rfl) (by kernel_rfl) (by kernel_rfl) (fun _ _ _ h => h) ((wanted_of hF rfl rfl rfl rfl).trans (by rw [hb49]; rfl)) hS rfl ?_; clear hF; intro a hF
              refine r_off 10 hF rfl rfl rfl (by kernel_rfl) (by kernel_rfl) (by kernel_rfl) (fun _ _ _ h => h) ((wanted_of hF rfl rfl rfl rfl).trans (by rw [hb49]; rfl)) hS rfl ?_; clear hF; intro a hF
              refine r_off 11 hF rfl rfl rfl (by kernel_rfl) (by kernel_rfl) (by kernel_rfl) (fun _ _ _ h => h) ((wanted_of hF rfl rfl rfl rfl).trans (by rw [hb49]; rfl)) hS rfl ?_; clear hF; intro a hF
              refine r_off 12 hF rfl rfl rfl (by kernel_rfl) (by kernel_rfl) (by kernel_rfl) (fun _ _ _ h => h) ((wanted_of hF rfl rfl rfl rfl).trans (by rw [hb49]; rfl)) hS rfl ?_; clear hF; intro a hF
              refine r_off 13 hF rfl rfl rfl (by kernel_rfl) (by kernel_rfl) (by kernel_rfl) (fun _ _ _ h => h) ((wanted_of hF rfl rfl rfl rfl).trans (by rw [hb49]; rfl)) hS rfl ?_; clear hF; intro a hF
              refine r_take 14 hF rfl rfl rfl (by kernel_rfl) (by kernel_rfl) (by kernel_rfl) (fun _ _ _ h => h) rfl hS (fun w hS => x_pickF (hF.tmp 49 rfl) hb49 rfl) rfl ?_; clear hF; intro a hF
              refine r_end (by kernel_rfl) ?_; clear hS
              exact hJr5 _ _ false (by first | exact sc_f (by omega) | exact sc_t (by omega) (lt_g _ _ _) | exact sc_t (by omega) (nlt_g _ _ _)) (((((hF.bare.add hF 60 rfl).add hF 11 rfl).add hF 10 rfl).add hF 1 rfl).add hF 0 rfl) (hH.sub _ (sub_cons (sub_nil _) 900 rfl))
      refine r_start [(900, .row RB 5 v d1.toList (fun _ => False))] (by kernel_rfl) hH fun hH => ?_
      have hS : SL [(900, .row RB 5 v d1.toList (fun _ => False))] _ := SL.of hH (sub_cons (sub_nil _) 900 rfl)
      refine r_take 0 hF rfl rfl rfl (by kernel_rfl) (by kernel_rfl) (by kernel_rfl) (fun _ _ _ h => h) rfl hS (fun w hS => x_move (hF.tmp 10 rfl)) rfl ?_; clear hF; intro a hF
      refine r_take 1 hF rfl rfl rfl (by kernel_rfl) (by kernel_rfl) (by kernel_rfl) (fun _ _ _ h => h) rfl hS (fun w hS => x_move (hF.tmp 11 rfl)) rfl ?_; clear hF; intro a hF
      refine r_take 2 hF rfl rfl rfl (by kernel_rfl) (by kernel_rfl) (by kernel_rfl) (fun _ _ _ h => h) rfl hS (fun w hS => x_leq (hF.tmp 30 rfl) (hF.tmp 31 rfl)) rfl ?_; clear hF; intro a hF
      refine r_take 3 hF rfl rfl rfl (by kernel_rfl) (by kernel_rfl) (by kernel_rfl) (fun _ _ _ h => h) rfl hS (fun w hS => x_move (hF.tmp 32 rfl)) rfl ?_; clear hF; intro a hF
      refine split_bool hF 33 rfl (fun hb33 => ?_) (fun hb33 => ?_)
      · have hc33 := hb33; try simp only [Bool.or_eq_true, Bool.and_eq_true, Bool.or_eq_false_iff, Bool.and_eq_false_iff, Bool.not_eq_true', Bool.not_eq_false', decide_eq_true_eq, decide_eq_false_iff_not, Bool.not_true, Bool.not_false] at hc33
        refine r_take 4 hF rfl rfl rfl (by kernel_rfl) (by kernel_rfl) (by kernel_rfl) (fun _ _ _ h => h) ((wanted_of hF rfl rfl rfl rfl).trans (by rw [hb33]; rfl)) hS (fun w hS => x_move (hF.tmp 0 rfl)) rfl ?_; clear hF; intro a hF
        refine r_take 5 hF rfl rfl rfl (by kernel_rfl) (by kernel_rfl) (by kernel_rfl) (fun _ _ _ h => h) ((wanted_of hF rfl rfl rfl rfl).trans (by rw [hb33]; rfl)) hS (fun w hS => x_move (hF.tmp 10 rfl)) rfl ?_; clear hF; intro a hF
        refine r_take 6 hF rfl rfl rfl (by kernel_rfl) (by kernel_rfl) (by kernel_rfl) (fun _ _ _ h => h) ((wanted_of hF rfl rfl rfl rfl).trans (by rw [hb33]; rfl)) hS (fun w hS => x_iaddrV Try.underlying72 ty5 (hH.row 900 rfl) (hF.tmp 34 rfl) (hF.tmp 35 rfl) (by omega) (by omega) _) rfl ?_; clear hF; intro a hF
        refine r_take 7 hF rfl rfl rfl (by kernel_rfl) (by kernel_rfl) (by kernel_rfl) (fun _ _ _ h => h) ((wanted_of hF rfl rfl rfl rfl).trans (by rw [hb33]; rfl)) hS (fun w hS => x_load1 ty5 (hF.tmp 36 rfl) ((Row.rdV (SL.row hS 900 rfl)).cellA (gi_some (xs := d1.toList) (i := (i : Int)) (by omega) (by omega)))) rfl ?_; clear hF; intro a hF
        refine r_take 8 hF rfl rfl rfl (by kernel_rfl) (by kernel_rfl) (by kernel_rfl) (fun _ _ _ h => h) ((wanted_of hF rfl rfl rfl rfl).trans (by rw [hb33]; rfl)) hS (fun w hS => x_move (hF.tmp 0 rfl)) rfl ?_; clear hF; intro a hF
        refine r_take 9 hF rfl rfl rfl (by kernel_rfl) (by kernel_rfl) (by kernel_rfl) (fun _ _ _ h => h) ((wanted_of hF rfl rfl rfl rfl).trans (by rw [hb33]; rfl)) hS (fun w hS => x_move (hF.tmp 1 rfl)) rfl ?_; clear hF; intro a hF
        refine r_take 10 hF rfl rfl rfl (by kernel_rfl) (by kernel_rfl) (by kernel_rfl) (fun _ _ _ h => h) ((wanted_of hF rfl rfl rfl rfl).trans (by rw [hb33]; rfl)) hS (fun w hS => x_iaddrV Try.underlying72 ty5 (hH.row 900 rfl) (hF.tmp 38 rfl) (hF.tmp 39 rfl) (by omega) (by omega) _) rfl ?_; clear hF; intro a hF
        refine r_take 11 hF rfl rfl rfl (by kernel_rfl) (by kernel_rfl) (by kernel_rfl) (fun _ _ _ h => h) ((wanted_of hF rfl rfl rfl rfl).trans (by rw [hb33]; rfl)) hS (fun w hS => x_load1 ty5 (hF.tmp 40 rfl) ((Row.rdV (SL.row hS 900 rfl)).cellA (gi_some (xs := d1.toList) (i := (la : Int)) (by omega) (by omega)))) rfl ?_; clear hF; intro a hF
        refine r_do 12 rfl (by kernel_rfl) ((wanted_of hF rfl rfl rfl rfl).trans (by rw [hb33]; rfl)) rfl ?_
        refine w_call hF (x_enter Try.func51 (by kernel_rfl) rfl (by simp only [List.map_toArray, List.map_cons, List.map_nil, hF.tmp 37 rfl, hF.tmp 41 rfl] <;> rfl)) (less_calls _ _ _) rfl rfl ?_
        rintro _ w ⟨rfl, hm_⟩; refine ⟨_, rfl, ?_⟩; clear hF; intro a hF; have hH := hH.same hm_
        clear hS; have hS : SL _ _ := SL.of hH (sub_cons (sub_nil _) 900 rfl); refine ⟨hS, ?_⟩
        refine r_take 13 hF rfl rfl rfl (by kernel_rfl) (by kernel_rfl) (by kernel_rfl) (fun _ _ _ h => h) rfl hS (fun w hS => x_pickT (hF.tmp 33 rfl) hb33 (hF.tmp 42 rfl)) rfl ?_; clear hF; intro a hF
        refine r_end (by kernel_rfl) ?_; clear hS
        exact hJr3 _ _ (decide ((gi d1.toList (i : Int)) < (gi d1.toList (la : Int)))) (by first | exact sc_f (by omega) | exact sc_t (by omega) (lt_g _ _ _) | exact sc_t (by omega) (nlt_g _ _ _)) (((((hF.bare.add hF 43 rfl).add hF 11 rfl).add hF 10 rfl).add hF 1 rfl).add hF 0 rfl) (hH.sub _ (sub_cons (sub_nil _) 900 rfl))
      · have hc33 := hb33; try simp only [Bool.or_eq_true, Bool.and_eq_true, Bool.or_eq_false_iff, Bool.and_eq_false_iff, Bool.not_eq_true', Bool.not_eq_false', decide_eq_true_eq, decide_eq_false_iff_not, Bool.not_true, Bool.not_false] at hc33
        refine r_off 4 hF rfl rfl rfl (by kernel_rfl) (by kernel_rfl) (by kernel_rfl) (fun _ _ _ h => h) ((wanted_of hF rfl rfl rfl rfl).trans (by rw [hb33]; rfl)) hS rfl ?_; clear hF; intro a hF
        refine r_off 5 hF rfl rfl rfl (by kernel_rfl) (by kernel_rfl) (by kernel_rfl) (fun _ _ _ h => h) ((wanted_of hF rfl rfl rfl rfl).trans (by rw [hb33]; rfl)) hS rfl ?_; clear hF; intro a hF
        refine r_off 6 hF rfl rfl rfl (by kernel_rfl) (by kernel_rfl) (by kernel_rfl) (fun _ _ _ h => h) ((wanted_of hF rfl rfl rfl rfl).trans (by rw [hb33]; rfl)) hS rfl ?_; clear hF; intro a hF
        refine r_off 7 hF rfl rfl rfl (by kernel_rfl) (by kernel_rfl) (by kernel_rfl) (fun _ _ _ h => h) ((wanted_of hF rfl rfl rfl rfl).trans (by rw [hb33]; rfl)) hS rfl ?_; clear hF; intro a hF
        refine r_off 8 hF rfl rfl rfl (by kernel_rfl) (by kernel_rfl) (by kernel_rfl) (fun _ _ _ h => h) ((wanted_of hF rfl rfl rfl rfl).trans (by rw [hb33]; rfl)) hS rfl ?_; clear hF; intro a hF
        refine r_off 9 hF rfl rfl rfl (by kernel_rfl) (by kernel_rfl) (by kernel_rfl) (fun _ _ _ h => h) ((wanted_of hF rfl rfl rfl rfl).trans (by rw [hb33]; rfl)) hS rfl ?_; clear hF; intro a hF
        refine r_off 10 hF rfl rfl rfl (by kernel_rfl) (by kernel_rfl) (by kernel_rfl) (fun _ _ _ h => h) ((wanted_of hF rfl rfl rfl rfl).trans (by rw [hb33]; rfl)) hS rfl ?_; clear hF; intro a hF
        refine r_off 11 hF rfl rfl rfl (by kernel_rfl) (by kernel_rfl) (by kernel_rfl) (fun _ _ _ h => h) ((wanted_of hF rfl rfl rfl rfl).trans (by rw [hb33]; rfl)) hS rfl ?_; clear hF; intro a hF
        refine r_off 12 hF rfl rfl rfl (by kernel_rfl) (by kernel_rfl) (by kernel_rfl) (fun _ _ _ h => h) ((wanted_of hF rfl rfl rfl rfl).trans (by rw [hb33]; rfl)) hS rfl ?_; clear hF; intro a hF
        refine r_take 13 hF rfl rfl rfl (by kernel_rfl) (by kernel_rfl) (by kernel_rfl) (fun _ _ _ h => h) rfl hS (fun w hS => x_pickF (hF.tmp 33 rfl) hb33 rfl) rfl ?_; clear hF; intro a hF
        refine r_end (by kernel_rfl) ?_; clear hS
        exact hJr3 _ _ false (by first | exact sc_f (by omega) | exact sc_t (by omega) (lt_g _ _ _) | exact sc_t (by omega) (nlt_g _ _ _)) (((((hF.bare.add hF 43 rfl).add hF 11 rfl).add hF 10 rfl).add hF 1 rfl).add hF 0 rfl) (hH.sub _ (sub_cons (sub_nil _) 900 rfl))
  refine r_start [] (by kernel_rfl) hH fun hH => ?_
  have hS : SL [] _ := SL.of hH (sub_nil _)
  refine r_take 0 hF rfl rfl rfl (by kernel_rfl) (by kernel_rfl) (by kernel_rfl) (fun _ _ _ h => h) rfl hS (fun w hS => x_move (hF.tmp 0 rfl)) rfl ?_; clear hF; intro a hF
  refine r_take 1 hF rfl rfl rfl (by kernel_rfl) (by kernel_rfl) (by kernel_rfl) (fun _ _ _ h => h) rfl hS (fun w hS => x_move (hF.tmp 1 rfl)) rfl ?_; clear hF; intro a hF
  refine r_take 2 hF rfl rfl rfl (by kernel_rfl) (by kernel_rfl) (by kernel_rfl) (fun _ _ _ h => h) rfl hS (fun w hS => x_move (hF.tmp 0 rfl)) rfl ?_; clear hF; intro a hF
  refine r_take 3 hF rfl rfl rfl (by kernel_rfl) (by kernel_rfl) (by kernel_rfl) (fun _ _ _ h => h) rfl hS (fun w hS => x_move (hF.tmp 3 rfl)) rfl ?_; clear hF; intro a hF
  refine r_take 4 hF rfl rfl rfl (by kernel_rfl) (by kernel_rfl) (by kernel_rfl) (fun _ _ _ h => h) rfl hS (fun w hS => x_move (hF.tmp 0 rfl)) rfl ?_; clear hF; intro a hF
  refine r_take 5 hF rfl rfl rfl (by kernel_rfl) (by kernel_rfl) (by kernel_rfl) (fun _ _ _ h => h) rfl hS (fun w hS => x_move (hF.tmp 3 rfl)) rfl ?_; clear hF; intro a hF
  refine r_take 6 hF rfl rfl rfl (by kernel_rfl) (by kernel_rfl) (by kernel_rfl) (fun _ _ _ h => h) rfl hS (fun w hS => x_iaddrV Try.underlying72 ty5 (hH.row 900 rfl) (hF.tmp 16 rfl) (hF.tmp 17 rfl) (by omega) (by omega) _) rfl ?_; clear hF; intro a hF
  refine r_take 8 hF rfl rfl rfl (by kernel_rfl) (by kernel_rfl) (by kernel_rfl) (fun _ _ _ h => h) rfl hS (fun w hS => x_move (hF.tmp 0 rfl)) rfl ?_; clear hF; intro a hF
  refine r_take 9 hF rfl rfl rfl (by kernel_rfl) (by kernel_rfl) (by kernel_rfl) (fun _ _ _ h => h) rfl hS (fun w hS => x_move (hF.tmp 1 rfl)) rfl ?_; clear hF; intro a hF
  refine r_take 10 hF rfl rfl rfl (by kernel_rfl) (by kernel_rfl) (by kernel_rfl) (fun _ _ _ h => h) rfl hS (fun w hS => x_iaddrV Try.underlying72 ty5 (hH.row 900 rfl) (hF.tmp 20 rfl) (hF.tmp 21 rfl) (by omega) (by omega) _) rfl ?_; clear hF; intro a hF
  refine r_do2 7 11 rfl rfl (by kernel_rfl) rfl rfl rfl rfl ?_ ?_
  ·
    refine w_at hF (x_load1 ty5 (hF.tmp 18 rfl) ((Row.rdV (hH.row 900 rfl)).cellA (gi_some (xs := d.toList) (i := (pv : Int)) (by omega) (by omega)))) rfl rfl ?_
    clear hF; intro a hF
    clear hS; have hS : SL _ _ := SL.of hH (sub_nil _); refine ⟨hS, ?_⟩
    refine r_do 11 rfl (by kernel_rfl) rfl rfl ?_
    refine w_at hF (x_load1 ty5 (hF.tmp 22 rfl) ((Row.rdV (hH.row 900 rfl)).cellA (gi_some (xs := d.toList) (i := (la : Int)) (by omega) (by omega)))) rfl rfl ?_
    clear hF; intro a hF
    clear hS; have hS : SL _ _ := SL.of hH (sub_nil _); refine ⟨hS, ?_⟩
    refine r_take 12 hF rfl rfl rfl (by kernel_rfl) (by kernel_rfl) (by kernel_rfl) (fun _ _ _ h => h) rfl hS (fun w hS => x_iaddrV Try.underlying72 ty5 (hH.row 900 rfl) (hF.tmp 12 rfl) (hF.tmp 13 rfl) (by omega) (by omega) _) rfl ?_; clear hF; intro a hF
    refine r_do 13 rfl (by kernel_rfl) rfl rfl ?_
    refine w_setV (xs := d.toList) 900 la (gi d.toList ((pv : Nat) : Int)) hH ty5 rfl (by first | omega | (simp only [List.length_set]; omega)) (hF.tmp 24 rfl) (hF.tmp 19 rfl) ?_
    clear hH; intro w hH
    clear hS; have hS : SL _ _ := SL.of hH (sub_nil _); refine ⟨hS, ?_⟩
    refine r_take 14 hF rfl rfl rfl (by kernel_rfl) (by kernel_rfl) (by kernel_rfl) (fun _ _ _ h => h) rfl hS (fun w hS => x_iaddrV Try.underlying72 ty5 (hH.row 900 rfl) (hF.tmp 14 rfl) (hF.tmp 15 rfl) (by omega) (by first | omega | (simp only [List.length_set]; omega)) _) rfl ?_; clear hF; intro a hF
    refine r_do 15 rfl (by kernel_rfl) rfl rfl ?_
    refine w_setV (xs := (d.toList.set la (gi d.toList ((pv : Nat) : Int)))) 900 pv (gi d.toList ((la : Nat) : Int)) hH ty5 rfl (by first | omega | (simp only [List.length_set]; omega)) (hF.tmp 25 rfl) (hF.tmp 23 rfl) ?_
    clear hH; intro w hH
    clear hS; have hS : SL _ _ := SL.of hH (sub_nil _); refine ⟨hS, ?_⟩
    have hH := hH.relab 900 (Y := .row RB 5 v (swp d la pv).toList (fun _ => False)) rfl (by rw [swp_list])
    refine r_end (by kernel_rfl) ?_; clear hS
    exact hJr1 _ _ (swp d la pv) rfl (((hF.bare.add hF 2 rfl).add hF 1 rfl).add hF 0 rfl) (hH.sub _ (sub_cons (sub_nil _) 900 rfl))
  ·
    refine w_at hF (x_load1 ty5 (hF.tmp 22 rfl) ((Row.rdV (hH.row 900 rfl)).cellA (gi_some (xs := d.toList) (i := (la : Int)) (by omega) (by omega)))) rfl rfl ?_
    clear hF; intro a hF
    clear hS; have hS : SL _ _ := SL.of hH (sub_nil _); refine ⟨hS, ?_⟩
    refine r_do 7 rfl (by kernel_rfl) rfl rfl ?_
    refine w_at hF (x_load1 ty5 (hF.tmp 18 rfl) ((Row.rdV (hH.row 900 rfl)).cellA (gi_some (xs := d.toList) (i := (pv : Int)) (by omega) (by omega)))) rfl rfl ?_
    clear hF; intro a hF
    clear hS; have hS : SL _ _ := SL.of hH (sub_nil _); refine ⟨hS, ?_⟩
    refine r_take 12 hF rfl rfl rfl (by kernel_rfl) (by kernel_rfl) (by kernel_rfl) (fun _ _ _ h => h) rfl hS (fun w hS => x_iaddrV Try.underlying72 ty5 (hH.row 900 rfl) (hF.tmp 12 rfl) (hF.tmp 13 rfl) (by omega) (by omega) _) rfl ?_; clear hF; intro a hF
    refine r_do 13 rfl (by kernel_rfl) rfl rfl ?_
    refine w_setV (xs := d.toList) 900 la (gi d.toList ((pv : Nat) : Int)) hH ty5 rfl (by first | omega | (simp only [List.length_set]; omega)) (hF.tmp 24 rfl) (hF.tmp 19 rfl) ?_
    clear hH; intro w hH
    clear hS; have hS : SL _ _ := SL.of hH (sub_nil _); refine ⟨hS, ?_⟩
    refine r_take 14 hF rfl rfl rfl (by kernel_rfl) (by kernel_rfl) (by kernel_rfl) (fun _ _ _ h => h) rfl hS (fun w hS => x_iaddrV Try.underlying72 ty5 (hH.row 900 rfl) (hF.tmp 14 rfl) (hF.tmp 15 rfl) (by omega) (by first | omega | (simp only [List.length_set]; omega)) _) rfl ?_; clear hF; intro a hF
    refine r_do 15 rfl (by kernel_rfl) rfl rfl ?_
    refine w_setV (xs := (d.toList.set la (gi d.toList ((pv : Nat) : Int)))) 900 pv (gi d.toList ((la : Nat) : Int)) hH ty5 rfl (by first | omega | (simp only [List.length_set]; omega)) (hF.tmp 25 rfl) (hF.tmp 23 rfl) ?_
    clear hH; intro w hH
    clear hS; have hS : SL _ _ := SL.of hH (sub_nil _); refine ⟨hS, ?_⟩
    have hH := hH.relab 900 (Y := .row RB 5 v (swp d la pv).toList (fun _ => False)) rfl (by rw [swp_list])
    refine r_end (by kernel_rfl) ?_; clear hS
    exact hJr1 _ _ (swp d la pv) rfl (((hF.bare.add hF 2 rfl).add hF 1 rfl).add hF 0 rfl) (hH.sub _ (sub_cons (sub_nil _) 900 rfl))

set_option maxRecDepth 100000 in
set_option maxHeartbeats 1000000 in
theorem parteq_calls (w0 : World) {v : Value} {d : Array Int} (h : Row RB 5 w0 (fun _ => False) v d.toList) {la lb pv : Nat} (hap : la ≤ pv) (hpb : pv < lb) (hb : lb ≤ d.size) (hsz : d.size < 1000000000) : Calls Try.prog 52 #[v, .int .i64 (la : Int), .int .i64 (lb : Int), .int .i64 (pv : Int)] w0 fun e w' => e = .returned (.int .i64 ((partitionEqual ltInt d la lb pv).1 : Int)) ∧ Mods (fun k => v.ownBlock = some k) w0 w' ∧ Row RB 5 w' (fun _ => False) v ((partitionEqual ltInt d la lb pv).2).toList := by
  refine calls_of_wp Try.func52 rfl ?_
  have hF := Fr.enter #[v, .int .i64 (la : Int), .int .i64 (lb : Int), .int .i64 (pv : Int)] 84 (slotsOf [v, .int .i64 (la : Int), .int .i64 (lb : Int), .int .i64 (pv : Int)] 0) (Nat.le_of_ble_eq_true rfl) (fun i v h => by have h2 := (get_slotsOf _ 0 i v h).2; simpa only [List.getElem?_toArray, Nat.sub_zero] using h2)
  rw [Try.ntmps52]
  revert hF; generalize (⟨(#[v, .int .i64 (la : Int), .int .i64 (lb : Int), .int .i64 (pv : Int)] : Array Value) ++ Array.replicate (84 - (#[v, .int .i64 (la : Int), .int .i64 (lb : Int), .int .i64 (pv : Int)] : Array Value).size) undef, []⟩ : Act) = a; intro hF
  have hH := Hp.ownrow 900 h (fun _ h => h.elim) (fun _ _ h => h)
  have hdl : d.toList.length = d.size := by simp
  refine wp_seq_k fun khK1 hK1 => ?_
  refine wp_region_lit ?_
  refine l_at hF rfl rfl rfl (x_assign rfl) ?_; clear hF; intro a hF
  refine wpList_nil ?_
  refine hK1 _ _ ?_
  refine wp_seq_k fun khK2 hK2 => ?_
  have hJr1 : ∀ a w, ∀ d1 : Array Int, (d1 = (swp d la pv)) → Fr 84 a [(0, v), (1, .int .i64 (la : Int)), (2, .int .i64 (lb : Int))] → Hp (fun k => v.ownBlock = some k) w0 w [(900, .row RB 5 v d1.toList (fun _ => False))] → khK2 a w := by
    intro a w d1 hjr1_0 hF hH
    refine hK2 a w ?_
    have hz1 : d1.size = d.size := by rw [hjr1_0, Sx.swp_size]
    have hl_d1 : d1.toList.length = d.size := by simp only [Array.length_toList]; omega
    refine wp_seq_k fun khK3 hK3 => ?_
    refine wp_region_lit ?_
    refine l_at hF rfl rfl rfl (x_move (hF.tmp 1 rfl)) ?_; clear hF; intro a hF
    refine l_at hF rfl rfl rfl (x_add (hF.tmp 25 rfl) rfl (show IntKind.i64.wrap _ = ((la + 1 : Nat) : Int) from by rw [w64 (by omega) (by omega)] <;> omega)) ?_; clear hF; intro a hF
    refine l_at hF rfl rfl rfl (x_move (hF.tmp 2 rfl)) ?_; clear hF; intro a hF
    refine l_at hF rfl rfl rfl (x_sub (hF.tmp 27 rfl) rfl (show IntKind.i64.wrap _ = ((lb - 1 : Nat) : Int) from by rw [w64 (by omega) (by omega)] <;> omega)) ?_; clear hF; intro a hF
    refine l_at hF rfl rfl rfl (x_assign (hF.tmp 26 rfl)) ?_; clear hF; intro a hF
    refine l_at hF rfl rfl rfl (x_assign (hF.tmp 28 rfl)) ?_; clear hF; intro a hF
    refine wpList_nil ?_
    refine hK3 _ _ ?_
    refine wp_seq_k fun khK4 hK4 => ?_
    refine wp_block ?_
    refine wp_loop_ghost (fun n_ a w => ∃ p : Nat, ∃ q : Nat, ∃ dk : Array Int, n_ = q + 2 - p ∧ (la + 1 ≤ p) ∧ (p ≤ q + 2) ∧ (la ≤ q) ∧ (q ≤ lb - 1) ∧ (dk.size = d.size) ∧ (partEqLoop ltInt la p q dk = partEqLoop ltInt la (la + 1) (lb - 1) d1) ∧ Fr 84 a [(0, v), (1, .int .i64 (la : Int)), (9, .int .i64 (p : Int)), (10, .int .i64 (q : Int))] ∧ Hp (fun k => v.ownBlock = some k) w0 w [(900, .row RB 5 v dk.toList (fun _ => False))]) ((lb - 1) + 2 - (la + 1)) ?_ ?_
    · exact ⟨la + 1, lb - 1, d1, rfl, by omega, by omega, by omega, by omega, hz1, rfl, ((((hF.bare.add hF 10 rfl).add hF 9 rfl).add hF 1 rfl).add hF 0 rfl), hH.sub _ (sub_cons (sub_nil _) 900 rfl)⟩
    · rintro _ a w ⟨p, q, dk, rfl, hq0_0, hq0_1, hq0_2, hq0_3, hq0_4, hq0_5, hF, hH⟩
      have hl_dk : dk.toList.length = d.size := by simp only [Array.length_toList]; omega
      refine wp_block ?_
      refine wp_seq_k fun khK5 hK5 => ?_
      refine wp_block ?_
      refine wp_loop_ghost (fun n_ a w => ∃ i6 : Nat, n_ = q + 2 - i6 ∧ (p ≤ i6) ∧ (i6 ≤ q + 2) ∧ (scanUp (fun x => !ltInt dk[la]! x) dk (q) i6 = scanUp (fun x => !ltInt dk[la]! x) dk (q) (p)) ∧ Fr 84 a [(0, v), (1, .int .i64 (la : Int)), (9, .int .i64 (i6 : Int)), (10, .int .i64 (q : Int))] ∧ Hp (fun k => v.ownBlock = some k) w0 w [(900, .row RB 5 v dk.toList (fun _ => False))]) (q + 2 - p) ?_ ?_
      · exact ⟨p, rfl, by omega, by omega, rfl, ((((hF.bare.add hF 10 rfl).add hF 9 rfl).add hF 1 rfl).add hF 0 rfl), hH.sub _ (sub_cons (sub_nil _) 900 rfl)⟩
      · rintro _ a w ⟨i6, rfl, hq2_0, hq2_1, hq2_2, hF, hH⟩
        refine wp_seq_k fun khK6 hK6 => ?_
        refine wp_seq_k fun khK7 hK7 => ?_
        have hJr3 : ∀ a w, ∀ c3 : Bool, (c3 = (decide (i6 ≤ q) && !ltInt dk[la]! dk[i6]!)) → Fr 84 a [(0, v), (1, .int .i64 (la : Int)), (9, .int .i64 (i6 : Int)), (10, .int .i64 (q : Int)), (43, .bool c3)] → Hp (fun k => v.ownBlock = some k) w0 w [(900, .row RB 5 v dk.toList (fun _ => False))] → khK7 a w := by
          intro a w c3 hjr3_0 hF hH
          refine hK7 a w ?_
          refine wp_cond_split (hF.tmp 43 rfl) (fun hc43 => ?_) (fun hc43 => ?_)
          · have hk43_1 := hc43; try simp only [Bool.or_eq_true, Bool.and_eq_true, Bool.or_eq_false_iff, Bool.and_eq_false_iff, Bool.not_eq_true', Bool.not_eq_false', decide_eq_true_eq, decide_eq_false_iff_not, Bool.not_true, Bool.not_false] at hc43
            have hs43 := sc_of hjr3_0 hc43
            refine wp_skip ?_
            refine hK6 _ _ ?_
            refine wp_block ?_
            refine wp_region_lit ?_
            refine l_at hF rfl rfl rfl (x_move (hF.tmp 9 rfl)) ?_; clear hF; intro a hF
            refine l_at hF rfl rfl rfl (x_add (hF.tmp 44 rfl) rfl (show IntKind.i64.wrap _ = ((i6 + 1 : Nat) : Int) from by rw [w64 (by omega) (by omega)] <;> omega)) ?_; clear hF; intro a hF
            refine l_at hF rfl rfl rfl (x_assign (hF.tmp 45 rfl)) ?_; clear hF; intro a hF
            refine wpList_nil ?_
            exact ⟨_, by omega, ⟨i6 + 1, rfl, by omega, by omega, (by rw [scanUp_on (p := (fun x => !ltInt dk[la]! x)) hs43]; exact hq2_2), ((((hF.bare.add hF 10 rfl).add hF 9 rfl).add hF 1 rfl).add hF 0 rfl), hH.sub _ (sub_cons (sub_nil _) 900 rfl)⟩⟩
          · have hk43_2 := hc43; try simp only [Bool.or_eq_true, Bool.and_eq_true, Bool.or_eq_false_iff, Bool.and_eq_false_iff, Bool.not_eq_true', Bool.not_eq_false', decide_eq_true_eq, decide_eq_false_iff_not, Bool.not_true, Bool.not_false] at hc43
            have ho43 := scanUp_off (p := (fun x => !ltInt dk[la]! x)) (sc_no hjr3_0 hc43)
            refine wp_exit ?_
            refine hK5 _ _ ?_
            refine wp_seq_k fun khK8 hK8 => ?_
            refine wp_block ?_
            refine wp_loop_ghost (fun n_ a w => ∃ j8 : Nat, n_ = 0 + j8 ∧ (la ≤ j8) ∧ (j8 ≤ q) ∧ (i6 ≤ j8 + 2) ∧ (scanDown (fun x => ltInt dk[la]! x) dk i6 j8 = scanDown (fun x => ltInt dk[la]! x) dk i6 (q)) ∧ Fr 84 a [(0, v), (1, .int .i64 (la : Int)), (9, .int .i64 (i6 : Int)), (10, .int .i64 (j8 : Int))] ∧ Hp (fun k => v.ownBlock = some k) w0 w [(900, .row RB 5 v dk.toList (fun _ => False))]) (0 + q) ?_ ?_
            · exact ⟨q, rfl, by omega, by omega, by omega, rfl, ((((hF.bare.add hF 10 rfl).add hF 9 rfl).add hF 1 rfl).add hF 0 rfl), hH.sub _ (sub_cons (sub_nil _) 900 rfl)⟩
            · rintro _ a w ⟨j8, rfl, hq4_0, hq4_1, hq4_2, hq4_3, hF, hH⟩
              refine wp_seq_k fun khK9 hK9 => ?_
              refine wp_seq_k fun khK10 hK10 => ?_
              have hJr5 : ∀ a w, ∀ c5 : Bool, (c5 = (decide (i6 ≤ j8) && ltInt dk[la]! dk[j8]!)) → Fr 84 a [(0, v), (1, .int .i64 (la : Int)), (9, .int .i64 (i6 : Int)), (10, .int .i64 (j8 : Int)), (59, .bool c5)] → Hp (fun k => v.ownBlock = some k) w0 w [(900, .row RB 5 v dk.toList (fun _ => False))] → khK10 a w := by
                intro a w c5 hjr5_0 hF hH
                refine hK10 a w ?_
                refine wp_cond_split (hF.tmp 59 rfl) (fun hc59 => ?_) (fun hc59 => ?_)
                · have hk59_3 := hc59; try simp only [Bool.or_eq_true, Bool.and_eq_true, Bool.or_eq_false_iff, Bool.and_eq_false_iff, Bool.not_eq_true', Bool.not_eq_false', decide_eq_true_eq, decide_eq_false_iff_not, Bool.not_true, Bool.not_false] at hc59
                  have hs59 := sc_of hjr5_0 hc59
                  refine wp_skip ?_
                  refine hK9 _ _ ?_
                  refine wp_block ?_
                  refine wp_region_lit ?_
                  refine l_at hF rfl rfl rfl (x_move (hF.tmp 10 rfl)) ?_; clear hF; intro a hF
                  refine l_at hF rfl rfl rfl (x_sub (hF.tmp 60 rfl) rfl (show IntKind.i64.wrap _ = ((j8 - 1 : Nat) : Int) from by rw [w64 (by omega) (by omega)] <;> omega)) ?_; clear hF; intro a hF
                  refine l_at hF rfl rfl rfl (x_assign (hF.tmp 61 rfl)) ?_; clear hF; intro a hF
                  refine wpList_nil ?_
                  exact ⟨_, by omega, ⟨j8 - 1, rfl, by omega, by omega, by omega, (by rw [scanDown_on (p := (fun x => ltInt dk[la]! x)) (by omega) hs59]; exact hq4_3), ((((hF.bare.add hF 10 rfl).add hF 9 rfl).add hF 1 rfl).add hF 0 rfl), hH.sub _ (sub_cons (sub_nil _) 900 rfl)⟩⟩
                · have hk59_4 := hc59; try simp only [Bool.or_eq_true, Bool.and_eq_true, Bool.or_eq_false_iff, Bool.and_eq_false_iff, Bool.not_eq_true', Bool.not_eq_false', decide_eq_true_eq, decide_eq_false_iff_not, Bool.not_true, Bool.not_false] at hc59
                  have ho59 := scanDown_off (p := (fun x => ltInt dk[la]! x)) (sc_no hjr5_0 hc59)
                  refine wp_exit ?_
                  refine hK8 _ _ ?_
                  refine wp_seq_k fun khK11 hK11 => ?_
                  refine wp_seq_k fun khK12 hK12 => ?_
                  refine wp_region_lit ?_
                  refine l_at hF rfl rfl rfl (x_move (hF.tmp 9 rfl)) ?_; clear hF; intro a hF
                  refine l_at hF rfl rfl rfl (x_move (hF.tmp 10 rfl)) ?_; clear hF; intro a hF
                  refine l_at hF rfl rfl rfl (x_gtr (hF.tmp 62 rfl) (hF.tmp 63 rfl)) ?_; clear hF; intro a hF
                  refine wpList_nil ?_
                  refine hK12 _ _ ?_
                  refine wp_cond_split (hF.tmp 64 rfl) (fun hc64 => ?_) (fun hc64 => ?_)
                  · have hk64_5 := hc64; try simp only [Bool.or_eq_true, Bool.and_eq_true, Bool.or_eq_false_iff, Bool.and_eq_false_iff, Bool.not_eq_true', Bool.not_eq_false', decide_eq_true_eq, decide_eq_false_iff_not, Bool.not_true, Bool.not_false] at hc64
                    refine wp_exit ?_
                    refine hK4 _ _ ?_
                    refine wp_seq_k fun khK13 hK13 => ?_
                    refine wp_region_lit ?_
                    refine l_at hF rfl rfl rfl (x_move (hF.tmp 9 rfl)) ?_; clear hF; intro a hF
                    refine l_at hF rfl rfl rfl (x_assign (hF.tmp 83 rfl)) ?_; clear hF; intro a hF
                    refine wpList_nil ?_
                    refine hK13 _ _ ?_
                    refine wp_ret ?_
                    try simp only [Exit.then, Exit.inBlock]
                    have hpt := partitionEqual_a hjr1_0 (hq0_5 ▸ partEq_stop (hq2_2 ▸ ho43) (hq4_3 ▸ ho59) (by omega))
                    exact fin_ret hF (res1 hF rfl rfl) ⟨by rw [hpt] <;> rfl, hH.mods, by rw [hpt]; exact hH.row 900 rfl⟩
                  · have hk64_6 := hc64; try simp only [Bool.or_eq_true, Bool.and_eq_true, Bool.or_eq_false_iff, Bool.and_eq_false_iff, Bool.not_eq_true', Bool.not_eq_false', decide_eq_true_eq, decide_eq_false_iff_not, Bool.not_true, Bool.not_false] at hc64
                    refine wp_skip ?_
                    refine hK11 _ _ ?_
                    refine wp_seq_k fun khK14 hK14 => ?_
                    have hJr8 : ∀ a w, Fr 84 a [(0, v), (1, .int .i64 (la : Int)), (9, .int .i64 (i6 : Int)), (10, .int .i64 (j8 : Int))] → Hp (fun k => v.ownBlock = some k) w0 w [(900, .row RB 5 v (swp dk i6 j8).toList (fun _ => False))] → khK14 a w := by
                      intro a w  hF hH
                      refine hK14 a w ?_
                      refine wp_seq_k fun khK15 hK15 => ?_
                      refine wp_region_lit ?_
                      refine l_at hF rfl rfl rfl (x_move (hF.tmp 9 rfl)) ?_; clear hF; intro a hF
                      refine l_at hF rfl rfl rfl (x_add (hF.tmp 79 rfl) rfl (show IntKind.i64.wrap _ = ((i6 + 1 : Nat) : Int) from by rw [w64 (by omega) (by omega)] <;> omega)) ?_; clear hF; intro a hF
                      refine l_at hF rfl rfl rfl (x_assign (hF.tmp 80 rfl)) ?_; clear hF; intro a hF
                      refine wpList_nil ?_
                      refine hK15 _ _ ?_
                      refine wp_region_lit ?_
                      refine l_at hF rfl rfl rfl (x_move (hF.tmp 10 rfl)) ?_; clear hF; intro a hF
                      refine l_at hF rfl rfl rfl (x_sub (hF.tmp 81 rfl) rfl (show IntKind.i64.wrap _ = ((j8 - 1 : Nat) : Int) from by rw [w64 (by omega) (by omega)] <;> omega)) ?_; clear hF; intro a hF
                      refine l_at hF rfl rfl rfl (x_assign (hF.tmp 82 rfl)) ?_; clear hF; intro a hF
                      refine wpList_nil ?_
                      exact ⟨_, by omega, ⟨i6 + 1, j8 - 1, (swp dk i6 j8), rfl, by omega, by omega, by omega, by omega, (by rw [Sx.swp_size]; exact hq0_4), (by rw [partEq_step (hq2_2 ▸ ho43) (hq4_3 ▸ ho59) (by omega) (by omega)]; exact hq0_5), ((((hF.bare.add hF 10 rfl).add hF 9 rfl).add hF 1 rfl).add hF 0 rfl), hH.sub _ (sub_cons (sub_nil _) 900 rfl)⟩⟩
                    refine r_start [] (by kernel_rfl) hH fun hH => ?_
                    have hS : SL [] _ := SL.of hH (sub_nil _)
                    refine r_take 0 hF rfl rfl rfl (by kernel_rfl) (by kernel_rfl) (by kernel_rfl) (fun _ _ _ h => h) rfl hS (fun w hS => x_move (hF.tmp 0 rfl)) rfl ?_; clear hF; intro a hF
                    refine r_take 1 hF rfl rfl rfl (by kernel_rfl) (by kernel_rfl) (by kernel_rfl) (fun _ _ _ h => h) rfl hS (fun w hS => x_move (hF.tmp 9 rfl)) rfl ?_; clear hF; intro a hF
                    refine r_take 2 hF rfl rfl rfl (by kernel_rfl) (by kernel_rfl) (by kernel_rfl) (fun _ _ _ h => h) rfl hS (fun w hS => x_move (hF.tmp 0 rfl)) rfl ?_; clear hF; intro a hF
                    refine r_take 3 hF rfl rfl rfl (by kernel_rfl) (by kernel_rfl) (by kernel_rfl) (fun _ _ _ h => h) rfl hS (fun w hS => x_move (hF.tmp 10 rfl)) rfl ?_; clear hF; intro a hF
                    refine r_take 4 hF rfl rfl rfl (by kernel_rfl) (by kernel_rfl) (by kernel_rfl) (fun _ _ _ h => h) rfl hS (fun w hS => x_move (hF.tmp 0 rfl)) rfl ?_; clear hF; intro a hF
                    refine r_take 5 hF rfl rfl rfl (by kernel_rfl) (by kernel_rfl) (by kernel_rfl) (fun _ _ _ h => h) rfl hS (fun w hS => x_move (hF.tmp 10 rfl)) rfl ?_; clear hF; intro a hF
                    refine r_take 6 hF rfl rfl rfl (by kernel_rfl) (by kernel_rfl) (by kernel_rfl) (fun _ _ _ h => h) rfl hS (fun w hS => x_iaddrV Try.underlying72 ty5 (hH.row 900 rfl) (hF.tmp 69 rfl) (hF.tmp 70 rfl) (by omega) (by omega) _) rfl ?_; clear hF; intro a hF
                    refine r_take 8 hF rfl rfl rfl (by kernel_rfl) (by kernel_rfl) (by kernel_rfl) (fun _ _ _ h => h) rfl hS (fun w hS => x_move (hF.tmp 0 rfl)) rfl ?_; clear hF; intro a hF
                    refine r_take 9 hF rfl rfl rfl (by kernel_rfl) (by kernel_rfl) (by kernel_rfl) (fun _ _ _ h => h) rfl hS (fun w hS => x_move (hF.tmp 9 rfl)) rfl ?_; clear hF; intro a hF
                    refine r_take 10 hF rfl rfl rfl (by kernel_rfl) (by kernel_rfl) (by kernel_rfl) (fun _ _ _ h => h) rfl hS (fun w hS => x_iaddrV Try.underlying72 ty5 (hH.row 900 rfl) (hF.tmp 73 rfl) (hF.tmp 74 rfl) (by omega) (by omega) _) rfl ?_; clear hF; intro a hF
                    refine r_do2 7 11 rfl rfl (by kernel_rfl) rfl rfl rfl rfl ?_ ?_
                    ·
                      refine w_at hF (x_load1 ty5 (hF.tmp 71 rfl) ((Row.rdV (hH.row 900 rfl)).cellA (gi_some (xs := dk.toList) (i := (j8 : Int)) (by omega) (by omega)))) rfl rfl ?_
                      clear hF; intro a hF
                      clear hS; have hS : SL _ _ := SL.of hH (sub_nil _); refine ⟨hS, ?_⟩
                      refine r_do 11 rfl (by kernel_rfl) rfl rfl ?_
                      refine w_at hF (x_load1 ty5 (hF.tmp 75 rfl) ((Row.rdV (hH.row 900 rfl)).cellA (gi_some (xs := dk.toList) (i := (i6 : Int)) (by omega) (by omega)))) rfl rfl ?_
                      clear hF; intro a hF
                      clear hS; have hS : SL _ _ := SL.of hH (sub_nil _); refine ⟨hS, ?_⟩
                      refine r_take 12 hF rfl rfl rfl (by kernel_rfl) (by kernel_rfl) (by kernel_rfl) (fun _ _ _ h => h) rfl hS (fun w hS => x_iaddrV Try.underlying72 ty5 (hH.row 900 rfl) (hF.tmp 65 rfl) (hF.tmp 66 rfl) (by omega) (by omega) _) rfl ?_; clear hF; intro a hF
                      refine r_do 13 rfl (by kernel_rfl) rfl rfl ?_
                      refine w_setV (xs := dk.toList) 900 i6 (gi dk.toList ((j8 : Nat) : Int)) hH ty5 rfl (by first | omega | (simp only [List.length_set]; omega)) (hF.tmp 77 rfl) (hF.tmp 72 rfl) ?_
                      clear hH; intro w hH
                      clear hS; have hS : SL _ _ := SL.of hH (sub_nil _); refine ⟨hS, ?_⟩
                      refine r_take 14 hF rfl rfl rfl (by kernel_rfl) (by kernel_rfl) (by kernel_rfl) (fun _ _ _ h => h) rfl hS (fun w hS => x_iaddrV Try.underlying72 ty5 (hH.row 900 rfl) (hF.tmp 67 rfl) (hF.tmp 68 rfl) (by omega) (by first | omega | (simp only [List.length_set]; omega)) _) rfl ?_; clear hF; intro a hF
                      refine r_do 15 rfl (by kernel_rfl) rfl rfl ?_
                      refine w_setV (xs := (dk.toList.set i6 (gi dk.toList ((j8 : Nat) : Int)))) 900 j8 (gi dk.toList ((i6 : Nat) : Int)) hH ty5 rfl (by first | omega | (simp only [List.length_set]; omega)) (hF.tmp 78 rfl) (hF.tmp 76 rfl) ?_
                      clear hH; intro w hH
                      clear hS; have hS : SL _ _ := SL.of hH (sub_nil _); refine ⟨hS, ?_⟩
                      have hH := hH.relab 900 (Y := .row RB 5 v (swp dk i6 j8).toList (fun _ => False)) rfl (by rw [swp_list])
                      refine r_end (by kernel_rfl) ?_; clear hS
                      exact hJr8 _ _  ((((hF.bare.add hF 10 rfl).add hF 9 rfl).add hF 1 rfl).add hF 0 rfl) (hH.sub _ (sub_cons (sub_nil _) 900 rfl))
                    ·
                      refine w_at hF (x_load1 ty5 (hF.tmp 75 rfl) ((Row.rdV (hH.row 900 rfl)).cellA (gi_some (xs := dk.toList) (i := (i6 : Int)) (by omega) (by omega)))) rfl rfl ?_
                      clear hF; intro a hF
                      clear hS; have hS : SL _ _ := SL.of hH (sub_nil _); refine ⟨hS, ?_⟩
                      refine r_do 7 rfl (by kernel_rfl) rfl rfl ?_
                      refine w_at hF (x_load1 ty5 (hF.tmp 71 rfl) ((Row.rdV (hH.row 900 rfl)).cellA (gi_some (xs := dk.toList) (i := (j8 : Int)) (by omega) (by omega)))) rfl rfl ?_
                      clear hF; intro a hF
                      clear hS; have hS : SL _ _ := SL.of hH (sub_nil _); refine ⟨hS, ?_⟩
                      refine r_take 12 hF rfl rfl rfl (by kernel_rfl) (by kernel_rfl) (by kernel_rfl) (fun _ _ _ h => h) rfl hS (fun w hS => x_iaddrV Try.underlying72 ty5 (hH.row 900 rfl) (hF.tmp 65 rfl) (hF.tmp 66 rfl) (by omega) (by omega) _) rfl ?_; clear hF; intro a hF
                      refine r_do 13 rfl (by kernel_rfl) rfl rfl ?_
                      refine w_setV (xs := dk.toList) 900 i6 (gi dk.toList ((j8 : Nat) : Int)) hH ty5 rfl (by first | omega | (simp only [List.length_set]; omega)) (hF.tmp 77 rfl) (hF.tmp 72 rfl) ?_
                      clear hH; intro w hH
                      clear hS; have hS : SL _ _ := SL.of hH (sub_nil _); refine ⟨hS, ?_⟩
                      refine r_take 14 hF rfl rfl rfl (by kernel_rfl) (by kernel_rfl) (by kernel_rfl) (fun _ _ _ h => h) rfl hS (fun w hS => x_iaddrV Try.underlying72 ty5 (hH.row 900 rfl) (hF.tmp 67 rfl) (hF.tmp 68 rfl) (by omega) (by first | omega | (simp only [List.length_set]; omega)) _) rfl ?_; clear hF; intro a hF
                      refine r_do 15 rfl (by kernel_rfl) rfl rfl ?_
                      refine w_setV (xs := (dk.toList.set i6 (gi dk.toList ((j8 : Nat) : Int)))) 900 j8 (gi dk.toList ((i6 : Nat) : Int)) hH ty5 rfl (by first | omega | (simp only [List.length_set]; omega)) (hF.tmp 78 rfl) (hF.tmp 76 rfl) ?_
                      clear hH; intro w hH
                      clear hS; have hS : SL _ _ := SL.of hH (sub_nil _); refine ⟨hS, ?_⟩
                      have hH := hH.relab 900 (Y := .row RB 5 v (swp dk i6 j8).toList (fun _ => False)) rfl (by rw [swp_list])
                      refine r_end (by kernel_rfl) ?_; clear hS
                      exact hJr8 _ _  ((((hF.bare.add hF 10 rfl).add hF 9 rfl).add hF 1 rfl).add hF 0 rfl) (hH.sub _ (sub_cons (sub_nil _) 900 rfl))
              refine r_start [(900, .row RB 5 v dk.toList (fun _ => False))] (by kernel_rfl) hH fun hH => ?_
              have hS : SL [(900, .row RB 5 v dk.toList (fun _ => False))] _ := SL.of hH (sub_cons (sub_nil _) 900 rfl)
              refine r_take 0 hF rfl rfl rfl (by kernel_rfl) (by kernel_rfl) (by kernel_rfl) (fun _ _ _ h => h) rfl hS (fun w hS => x_move (hF.tmp 9 rfl)) rfl ?_; clear hF; intro a hF
              refine r_take 1 hF rfl rfl rfl (by kernel_rfl) (by kernel_rfl) (by kernel_rfl) (fun _ _ _ h => h) rfl hS (fun w hS => x_move (hF.tmp 10 rfl)) rfl ?_; clear hF; intro a hF
              refine r_take 2 hF rfl rfl rfl (by kernel_rfl) (by kernel_rfl) (by kernel_rfl) (fun _ _ _ h => h) rfl hS (fun w hS => x_leq (hF.tmp 46 rfl) (hF.tmp 47 rfl)) rfl ?_; clear hF; intro a hF
              refine r_take 3 hF rfl rfl rfl (by kernel_rfl) (by kernel_rfl) (by kernel_rfl) (fun _ _ _ h => h) rfl hS (fun w hS => x_move (hF.tmp 48 rfl)) rfl ?_; clear hF; intro a hF
              refine split_bool hF 49 rfl (fun hb49 => ?_) (fun hb49 => ?_)
              · have hc49 := hb49; try simp only [Bool.or_eq_true, Bool.and_eq_true, Bool.or_eq_false_iff, Bool.and_eq_false_iff, Bool.not_eq_true', Bool.not_eq_false', decide_eq_true_eq, decide_eq_false_iff_not, Bool.not_true, Bool.not_false] at hc49
                refine r_take 4 hF rfl rfl rfl (by kernel_rfl) (by kernel_rfl) (by kernel_rfl) (fun _ _ _ h => h) ((wanted_of hF rfl rfl rfl rfl).trans (by rw [hb49]; rfl)) hS (fun w hS => x_move (hF.tmp 0 rfl)) rfl ?_; clear hF; intro a hF
                refine r_take 5 hF rfl rfl rfl (by kernel_rfl) (by kernel_rfl) (by kernel_rfl) (fun _ _ _ h => h) ((wanted_of hF rfl rfl rfl rfl).trans (by rw [hb49]; rfl)) hS (fun w hS => x_move (hF.tmp 1 rfl)) rfl ?_; clear hF; intro a hF
                refine r_take 6 hF rfl rfl rfl (by kernel_rfl) (by kernel_rfl) (by kernel_rfl) (fun _ _ _ h => h) ((wanted_of hF rfl rfl rfl rfl).trans (by rw [hb49]; rfl)) hS (fun w hS => x_iaddrV Try.underlying72 ty5 (hH.row 900 rfl) (hF.tmp 50 rfl) (hF.tmp 51 rfl) (by omega) (by omega) _) rfl ?_; clear hF; intro a hF
                refine r_take 7 hF rfl rfl rfl (by kernel_rfl) (by kernel_rfl) (by kernel_rfl) (fun _ _ _ h => h) ((wanted_of hF rfl rfl rfl rfl).trans (by rw [hb49]; rfl)) hS (fun w hS => x_load1 ty5 (hF.tmp 52 rfl) ((Row.rdV (SL.row hS 900 rfl)).cellA (gi_some (xs := dk.toList) (i := (la : Int)) (by omega) (by omega)))) rfl ?_; clear hF; intro a hF
                refine r_take 8 hF rfl rfl rfl (by kernel_rfl) (by kernel_rfl) (by kernel_rfl) (fun _ _ _ h => h) ((wanted_of hF rfl rfl rfl rfl).trans (by rw [hb49]; rfl)) hS (fun w hS => x_move (hF.tmp 0 rfl)) rfl ?_; clear hF; intro a hF
                refine r_take 9 hF rfl rfl rfl (by kernel_rfl) (by kernel_rfl) (by kernel_rfl) (fun _ _ _ h => h) ((wanted_of hF rfl rfl rfl rfl).trans (by rw [hb49]; rfl)) hS (fun w hS => x_move (hF.tmp 10 rfl)) rfl ?_; clear hF; intro a hF
                refine r_take 10 hF rfl rfl rfl (by kernel_rfl) (by kernel_rfl) (by kernel_rfl) (fun _ _ _ h => h) ((wanted_of hF rfl rfl rfl rfl).trans (by rw [hb49]; rfl)) hS (fun w hS => x_iaddrV Try.underlying72 ty5 (hH.row 900 rfl) (hF.tmp 54 rfl) (hF.tmp 55 rfl) (by omega) (by omega) _) rfl ?_; clear hF; intro a hF
                refine r_take 11 hF rfl rfl rfl (by kernel_rfl) (by kernel_rfl) (by kernel_rfl) (fun _ _ _ h => h) ((wanted_of hF rfl rfl rfl rfl).trans (by rw [hb49]; rfl)) hS (fun w hS => x_load1 ty5 (hF.tmp 56 rfl) ((Row.rdV (SL.row hS 900 rfl)).cellA (gi_some (xs := dk.toList) (i := (j8 : Int)) (by omega) (by omega)))) rfl ?_; clear hF; intro a hF
                refine r_do 12 rfl (by kernel_rfl) ((wanted_of hF rfl rfl rfl rfl).trans (by rw [hb49]; rfl)) rfl ?_
                refine w_call hF (x_enter Try.func51 (by kernel_rfl) rfl (by simp only [List.map_toArray, List.map_cons, List.map_nil, hF.tmp 53 rfl, hF.tmp 57 rfl] <;> rfl)) (less_calls _ _ _) rfl rfl ?_
                rintro _ w ⟨rfl, hm_⟩; refine ⟨_, rfl, ?_⟩; clear hF; intro a hF; have hH := hH.same hm_
                clear hS; have hS : SL _ _ := SL.of hH (sub_cons (sub_nil _) 900 rfl); refine ⟨hS, ?_⟩
                refine r_take 13 hF rfl rfl rfl (by kernel_rfl) (by kernel_rfl) (by kernel_rfl) (fun _ _ _ h => h) rfl hS (fun w hS => x_pickT (hF.tmp 49 rfl) hb49 (hF.tmp 58 rfl)) rfl ?_; clear hF; intro a hF
                refine r_end (by kernel_rfl) ?_; clear hS
                exact hJr5 _ _ (decide ((gi dk.toList (la : Int)) < (gi dk.toList (j8 : Int)))) (by first | exact sc_f (by omega) | exact sc_t (by omega) (lt_g _ _ _) | exact sc_t (by omega) (nlt_g _ _ _)) (((((hF.bare.add hF 59 rfl).add hF 10 rfl).add hF 9 rfl).add hF 1 rfl).add hF 0 rfl) (hH.sub _ (sub_cons (sub_nil _) 900 rfl))
              · have hc49 := hb49; try simp only [Bool.or_eq_true, Bool.and_eq_true, Bool.or_eq_false_iff, Bool.and_eq_false_iff, Bool.not_eq_true', Bool.not_eq_false', decide_eq_true_eq, decide_eq_false_iff_not, Bool.not_true, Bool.not_false] at hc49
                refine r_off 4 hF rfl rfl rfl (by kernel_rfl) (by kernel_rfl) (by kernel_rfl) (fun _ _ _ h => h) ((wanted_of hF rfl rfl rfl rfl).trans (by rw [hb49]; rfl)) hS rfl ?_; clear hF; intro a hF
                refine r_off 5 hF rfl rfl rfl (by kernel_rfl) (by kernel_rfl) (by kernel_rfl) (fun _ _ _ h => h) ((wanted_of hF rfl rfl rfl rfl).trans (by rw [hb49]; rfl)) hS rfl ?_; clear hF; intro a hF
                refine r_off 6 hF rfl rfl rfl (by kernel_rfl) (by kernel_rfl) (by kernel_rfl) (fun _ _ _ h => h) ((wanted_of hF rfl rfl rfl rfl).trans (by rw [hb49]; rfl)) hS rfl ?_; clear hF; intro a hF
                refine r_off 7 hF rfl rfl rfl (by kernel_rfl) (by kernel_rfl) (by kernel_rfl) (fun _ _ _ h => h) ((wanted_of hF rfl rfl rfl rfl).trans (by rw [hb49]; rfl)) hS rfl ?_; clear hF; intro a hF
                refine r_off 8 hF rfl rfl rfl (by kernel_rfl) (by kernel_rfl) (by kernel_rfl) (fun _ _ _ h => h) ((wanted_of hF rfl rfl rfl rfl).trans (by rw [hb49]; rfl)) hS rfl ?_; clear hF; intro a hF
                refine r_off 9 hF rfl rfl rfl (by kernel_rfl) (by kernel_rfl) (by kernel_rfl) (fun _ _ _ h => h) ((wanted_of hF rfl rfl rfl rfl).trans (by rw [hb49]; rfl)) hS rfl ?_; clear hF; intro a hF
                refine r_off 10 hF rfl rfl rfl (by kernel_rfl) (by kernel_rfl) (by kernel_rfl) (fun _ _ _ h => h) ((wanted_of hF rfl rfl rfl rfl).trans (by rw [hb49]; rfl)) hS rfl ?_; clear hF; intro a hF
                refine r_off 11 hF rfl rfl rfl (by kernel_rfl) (by kernel_rfl) (by kernel_rfl) (fun _ _ _ h => h) ((wanted_of hF rfl rfl rfl rfl).trans (by rw [hb49]; rfl)) hS rfl ?_; clear hF; intro a hF
                refine r_off 12 hF rfl rfl rfl (by kernel_rfl) (by kernel_rfl) (by kernel_rfl) (fun _ _ _ h => h) ((wanted_of hF rfl rfl rfl rfl).trans (by rw [hb49]; rfl)) hS rfl ?_; clear hF; intro a hF
                refine r_take 13 hF rfl rfl rfl (by kernel_rfl) (by kernel_rfl) (by kernel_rfl) (fun _ _ _ h => h) rfl hS (fun w hS => x_pickF (hF.tmp 49 rfl) hb49 rfl) rfl ?_; clear hF; intro a hF
                refine r_end (by kernel_rfl) ?_; clear hS
                exact hJr5 _ _ false (by first | exact sc_f (by omega) | exact sc_t (by omega) (lt_g _ _ _) | exact sc_t (by omega) (nlt_g _ _ _)) (((((hF.bare.add hF 59 rfl).add hF 10 rfl).add hF 9 rfl).add hF 1 rfl).add hF 0 rfl) (hH.sub _ (sub_cons (sub_nil _) 900 rfl))
        refine r_start [(900, .row RB 5 v dk.toList (fun _ => False))] (by kernel_rfl) hH fun hH => ?_
        have hS : SL [(900, .row RB 5 v dk.toList (fun _ => False))] _ := SL.of hH (sub_cons (sub_nil _) 900 rfl)
        refine r_take 0 hF rfl rfl rfl (by kernel_rfl) (by kernel_rfl) (by kernel_rfl) (fun _ _ _ h => h) rfl hS (fun w hS => x_move (hF.tmp 9 rfl)) rfl ?_; clear hF; intro a hF
        refine r_take 1 hF rfl rfl rfl (by kernel_rfl) (by kernel_rfl) (by kernel_rfl) (fun _ _ _ h => h) rfl hS (fun w hS => x_move (hF.tmp 10 rfl)) rfl ?_; clear hF; intro a hF
        refine r_take 2 hF rfl rfl rfl (by kernel_rfl) (by kernel_rfl) (by kernel_rfl) (fun _ _ _ h => h) rfl hS (fun w hS => x_leq (hF.tmp 29 rfl) (hF.tmp 30 rfl)) rfl ?_; clear hF; intro a hF
        refine r_take 3 hF rfl rfl rfl (by kernel_rfl) (by kernel_rfl) (by kernel_rfl) (fun _ _ _ h => h) rfl hS (fun w hS => x_move (hF.tmp 31 rfl)) rfl ?_; clear hF; intro a hF
        refine split_bool hF 32 rfl (fun hb32 => ?_) (fun hb32 => ?_)
        · have hc32 := hb32; try simp only [Bool.or_eq_true, Bool.and_eq_true, Bool.or_eq_false_iff, Bool.and_eq_false_iff, Bool.not_eq_true', Bool.not_eq_false', decide_eq_true_eq, decide_eq_false_iff_not, Bool.not_true, Bool.not_false] at hc32
          refine r_take 4 hF rfl rfl rfl (by kernel_rfl) (by kernel_rfl) (by kernel_rfl) (fun _ _ _ h => h) ((wanted_of hF rfl rfl rfl rfl).trans (by rw [hb32]; rfl)) hS (fun w hS => x_move (hF.tmp 0 rfl)) rfl ?_; clear hF; intro a hF
          refine r_take 5 hF rfl rfl rfl (by kernel_rfl) (by kernel_rfl) (by kernel_rfl) (fun _ _ _ h => h) ((wanted_of hF rfl rfl rfl rfl).trans (by rw [hb32]; rfl)) hS (fun w hS => x_move (hF.tmp 1 rfl)) rfl ?_; clear hF; intro a hF
          refine r_take 6 hF rfl rfl rfl (by kernel_rfl) (by kernel_rfl) (by kernel_rfl) (fun _ _ _ h => h) ((wanted_of hF rfl rfl rfl rfl).trans (by rw [hb32]; rfl)) hS (fun w hS => x_iaddrV Try.underlying72 ty5 (hH.row 900 rfl) (hF.tmp 33 rfl) (hF.tmp 34 rfl) (by omega) (by omega) _) rfl ?_; clear hF; intro a hF
          refine r_take 7 hF rfl rfl rfl (by kernel_rfl) (by kernel_rfl) (by kernel_rfl) (fun _ _ _ h => h) ((wanted_of hF rfl rfl rfl rfl).trans (by rw [hb32]; rfl)) hS (fun w hS => x_load1 ty5 (hF.tmp 35 rfl) ((Row.rdV (SL.row hS 900 rfl)).cellA (gi_some (xs := dk.toList) (i := (la : Int)) (by omega) (by omega)))) rfl ?_; clear hF; intro a hF
          refine r_take 8 hF rfl rfl rfl (by kernel_rfl) (by kernel_rfl) (by kernel_rfl) (fun _ _ _ h => h) ((wanted_of hF rfl rfl rfl rfl).trans (by rw [hb32]; rfl)) hS (fun w hS => x_move (hF.tmp 0 rfl)) rfl ?_; clear hF; intro a hF
          refine r_take 9 hF rfl rfl rfl (by kernel_rfl) (by kernel_rfl) (by kernel_rfl) (fun _ _ _ h => h) ((wanted_of hF rfl rfl rfl rfl).trans (by rw [hb32]; rfl)) hS (fun w hS => x_move (hF.tmp 9 rfl)) rfl ?_; clear hF; intro a hF
          refine r_take 10 hF rfl rfl rfl (by kernel_rfl) (by kernel_rfl) (by kernel_rfl) (fun _ _ _ h => h) ((wanted_of hF rfl rfl rfl rfl).trans (by rw [hb32]; rfl)) hS (fun w hS => x_iaddrV Try.underlying72 ty5 (hH.row 900 rfl) (hF.tmp 37 rfl) (hF.tmp 38 rfl) (by omega) (by omega) _) rfl ?_; clear hF; intro a hF
          refine r_take 11 hF rfl rfl rfl (by kernel_rfl) (by kernel_rfl) (by kernel_rfl) (fun _ _ _ h => h) ((wanted_of hF rfl rfl rfl rfl).trans (by rw [hb32]; rfl)) hS (fun w hS => x_load1 ty5 (hF.tmp 39 rfl) ((Row.rdV (SL.row hS 900 rfl)).cellA (gi_some (xs := dk.toList) (i := (i6 : Int)) (by omega) (by omega)))) rfl ?_; clear hF; intro a hF
          refine r_do 12 rfl (by kernel_rfl) ((wanted_of hF rfl rfl rfl rfl).trans (by rw [hb32]; rfl)) rfl ?_
          refine w_call hF (x_enter Try.func51 (by kernel_rfl) rfl (by simp only [List.map_toArray, List.map_cons, List.map_nil, hF.tmp 36 rfl, hF.tmp 40 rfl] <;> rfl)) (less_calls _ _ _) rfl rfl ?_
          rintro _ w ⟨rfl, hm_⟩; refine ⟨_, rfl, ?_⟩; clear hF; intro a hF; have hH := hH.same hm_
          clear hS; have hS : SL _ _ := SL.of hH (sub_cons (sub_nil _) 900 rfl); refine ⟨hS, ?_⟩
          refine r_take 13 hF rfl rfl rfl (by kernel_rfl) (by kernel_rfl) (by kernel_rfl) (fun _ _ _ h => h) ((wanted_of hF rfl rfl rfl rfl).trans (by rw [hb32]; rfl)) hS (fun w hS => x_not (hF.tmp 41 rfl)) rfl ?_; clear hF; intro a hF
          refine r_take 14 hF rfl rfl rfl (by kernel_rfl) (by kernel_rfl) (by kernel_rfl) (fun _ _ _ h => h) rfl hS (fun w hS => x_pickT (hF.tmp 32 rfl) hb32 (hF.tmp 42 rfl)) rfl ?_; clear hF; intro a hF
          refine r_end (by kernel_rfl) ?_; clear hS
          exact hJr3 _ _ (!(decide ((gi dk.toList (la : Int)) < (gi dk.toList (i6 : Int))))) (by first | exact sc_f (by omega) | exact sc_t (by omega) (lt_g _ _ _) | exact sc_t (by omega) (nlt_g _ _ _)) (((((hF.bare.add hF 43 rfl).add hF 10 rfl).add hF 9 rfl).add hF 1 rfl).add hF 0 rfl) (hH.sub _ (sub_cons (sub_nil _) 900 rfl))
        · have hc32 := hb32; try simp only [Bool.or_eq_true, Bool.and_eq_true, Bool.or_eq_false_iff, Bool.and_eq_false_iff, Bool.not_eq_true', Bool.not_eq_false', decide_eq_true_eq, decide_eq_false_iff_not, Bool.not_true, Bool.not_false] at hc32
          refine r_off 4 hF rfl rfl rfl (by kernel_rfl) (by kernel_rfl) (by kernel_rfl) (fun _ _ _ h => h) ((wanted_of hF rfl rfl rfl rfl).trans (by rw [hb32]; rfl)) hS rfl ?_; clear hF; intro a hF
          refine r_off 5 hF rfl rfl rfl (by kernel_rfl) (by kernel_rfl) (by kernel_rfl) (fun _ _ _ h => h) ((wanted_of hF rfl rfl rfl rfl).trans (by rw [hb32]; rfl)) hS rfl ?_; clear hF; intro a hF
          refine r_off 6 hF rfl rfl rfl (by kernel_rfl) (by kernel_rfl) (by kernel_rfl) (fun _ _ _ h => h) ((wanted_of hF rfl rfl rfl rfl).trans (by rw [hb32]; rfl)) hS rfl ?_; clear hF; intro a hF
          refine r_off 7 hF rfl rfl rfl (by kernel_rfl) (by kernel_rfl) (by kernel_rfl) (fun _ _ _ h => h) ((wanted_of hF rfl rfl rfl rfl).trans (by rw [hb32]; rfl)) hS rfl ?_; clear hF; intro a hF
          refine r_off 8 hF rfl rfl rfl (by kernel_rfl) (by kernel_rfl) (by kernel_rfl) (fun _ _ _ h => h) ((wanted_of hF rfl rfl rfl rfl).trans (by rw [hb32]; rfl)) hS rfl ?_; clear hF; intro a hF
          refine r_off 9 hF rfl rfl rfl (by kernel_rfl) (by kernel_rfl) (by kernel_rfl) (fun _ _ _ h => h) ((wanted_of hF rfl rfl rfl rfl).trans (by rw [hb32]; rfl)) hS rfl ?_; clear hF; intro a hF
          refine r_off 10 hF rfl rfl rfl (by kernel_rfl) (by kernel_rfl) (by kernel_rfl) (fun _ _ _ h => h) ((wanted_of hF rfl rfl rfl rfl).trans (by rw [hb32]; rfl)) hS rfl ?_; clear hF; intro a hF
          refine r_off 11 hF rfl rfl rfl (by kernel_rfl) (by kernel_rfl) (by kernel_rfl) (fun _ _ _ h => h) ((wanted_of hF rfl rfl rfl rfl).trans (by rw [hb32]; rfl)) hS rfl ?_; clear hF; intro a hF
          refine r_off 12 hF rfl rfl rfl (by kernel_rfl) (by kernel_rfl) (by kernel_rfl) (fun _ _ _ h => h) ((wanted_of hF rfl rfl rfl rfl).trans (by rw [hb32]; rfl)) hS rfl ?_; clear hF; intro a hF
          refine r_off 13 hF rfl rfl rfl (by kernel_rfl) (by kernel_rfl) (by kernel_rfl) (fun _ _ _ h => h) ((wanted_of hF rfl rfl rfl rfl).trans (by rw [hb32]; rfl)) hS rfl ?_; clear hF; intro a hF
          refine r_take 14 hF rfl rfl rfl (by kernel_rfl) (by kernel_rfl) (by kernel_rfl) (fun _ _ _ h => h) rfl hS (fun w hS => x_pickF (hF.tmp 32 rfl) hb32 rfl) rfl ?_; clear hF; intro a hF
          refine r_end (by kernel_rfl) ?_; clear hS
          exact hJr3 _ _ false (by first | exact sc_f (by omega) | exact sc_t (by omega) (lt_g _ _ _) | exact sc_t (by omega) (nlt_g _ _ _)) (((((hF.bare.add hF 43 rfl).add hF 10 rfl).add hF 9 rfl).add hF 1 rfl).add hF 0 rfl) (hH.sub _ (sub_cons (sub_nil _) 900 rfl))
  refine r_start [] (by kernel_rfl) hH fun hH => ?_
  have hS : SL [] _ := SL.of hH (sub_nil _)
  refine r_take 0 hF rfl rfl rfl (by kernel_rfl) (by kernel_rfl) (by kernel_rfl) (fun _ _ _ h => h) rfl hS (fun w hS => x_move (hF.tmp 0 rfl)) rfl ?_; clear hF; intro a hF
  refine r_take 1 hF rfl rfl rfl (by kernel_rfl) (by kernel_rfl) (by kernel_rfl) (fun _ _ _ h => h) rfl hS (fun w hS => x_move (hF.tmp 1 rfl)) rfl ?_; clear hF; intro a hF
  refine r_take 2 hF rfl rfl rfl (by kernel_rfl) (by kernel_rfl) (by kernel_rfl) (fun _ _ _ h => h) rfl hS (fun w hS => x_move (hF.tmp 0 rfl)) rfl ?_; clear hF; intro a hF
  refine r_take 3 hF rfl rfl rfl (by kernel_rfl) (by kernel_rfl) (by kernel_rfl) (fun _ _ _ h => h) rfl hS (fun w hS => x_move (hF.tmp 3 rfl)) rfl ?_; clear hF; intro a hF
  refine r_take 4 hF rfl rfl rfl (by kernel_rfl) (by kernel_rfl) (by kernel_rfl) (fun _ _ _ h => h) rfl hS (fun w hS => x_move (hF.tmp 0 rfl)) rfl ?_; clear hF; intro a hF
  refine r_take 5 hF rfl rfl rfl (by kernel_rfl) (by kernel_rfl) (by kernel_rfl) (fun _ _ _ h => h) rfl hS (fun w hS => x_move (hF.tmp 3 rfl)) rfl ?_; clear hF; intro a hF
  refine r_take 6 hF rfl rfl rfl (by kernel_rfl) (by kernel_rfl) (by kernel_rfl) (fun _ _ _ h => h) rfl hS (fun w hS => x_iaddrV Try.underlying72 ty5 (hH.row 900 rfl) (hF.tmp 15 rfl) (hF.tmp 16 rfl) (by omega) (by omega) _) rfl ?_; clear hF; intro a hF
  refine r_take 8 hF rfl rfl rfl (by kernel_rfl) (by kernel_rfl) (by kernel_rfl) (fun _ _ _ h => h) rfl hS (fun w hS => x_move (hF.tmp 0 rfl)) rfl ?_; clear hF; intro a hF
  refine r_take 9 hF rfl rfl rfl (by kernel_rfl) (by kernel_rfl) (by kernel_rfl) (fun _ _ _ h => h) rfl hS (fun w hS => x_move (hF.tmp 1 rfl)) rfl ?_; clear hF; intro a hF
  refine r_take 10 hF rfl rfl rfl (by kernel_rfl) (by kernel_rfl) (by kernel_rfl) (fun _ _ _ h => h) rfl hS (fun w hS => x_iaddrV Try.underlying72 ty5 (hH.row 900 rfl) (hF.tmp 19 rfl) (hF.tmp 20 rfl) (by omega) (by omega) _) rfl ?_; clear hF; intro a hF
  refine r_do2 7 11 rfl rfl (by kernel_rfl) rfl rfl rfl rfl ?_ ?_
  ·
    refine w_at hF (x_load1 ty5 (hF.tmp 17 rfl) ((Row.rdV (hH.row 900 rfl)).cellA (gi_some (xs := d.toList) (i := (pv : Int)) (by omega) (by omega)))) rfl rfl ?_
    clear hF; intro a hF
    clear hS; have hS : SL _ _ := SL.of hH (sub_nil _); refine ⟨hS, ?_⟩
    refine r_do 11 rfl (by kernel_rfl) rfl rfl ?_
    refine w_at hF (x_load1 ty5 (hF.tmp 21 rfl) ((Row.rdV (hH.row 900 rfl)).cellA (gi_some (xs := d.toList) (i := (la : Int)) (by omega) (by omega)))) rfl rfl ?_
    clear hF; intro a hF
    clear hS; have hS : SL _ _ := SL.of hH (sub_nil _); refine ⟨hS, ?_⟩
    refine r_take 12 hF rfl rfl rfl (by kernel_rfl) (by kernel_rfl) (by kernel_rfl) (fun _ _ _ h => h) rfl hS (fun w hS => x_iaddrV Try.underlying72 ty5 (hH.row 900 rfl) (hF.tmp 11 rfl) (hF.tmp 12 rfl) (by omega) (by omega) _) rfl ?_; clear hF; intro a hF
    refine r_do 13 rfl (by kernel_rfl) rfl rfl ?_
    refine w_setV (xs := d.toList) 900 la (gi d.toList ((pv : Nat) : Int)) hH ty5 rfl (by first | omega | (simp only [List.length_set]; omega)) (hF.tmp 23 rfl) (hF.tmp 18 rfl) ?_
    clear hH; intro w hH
    clear hS; have hS : SL _ _ := SL.of hH (sub_nil _); refine ⟨hS, ?_⟩
    refine r_take 14 hF rfl rfl rfl (by kernel_rfl) (by kernel_rfl) (by kernel_rfl) (fun _ _ _ h => h) rfl hS (fun w hS => x_iaddrV Try.underlying72 ty5 (hH.row 900 rfl) (hF.tmp 13 rfl) (hF.tmp 14 rfl) (by omega) (by first | omega | (simp only [List.length_set]; omega)) _) rfl ?_; clear hF; intro a hF
    refine r_do 15 rfl (by kernel_rfl) rfl rfl ?_
    refine w_setV (xs := (d.toList.set la (gi d.toList ((pv : Nat) : Int)))) 900 pv (gi d.toList ((la : Nat) : Int)) hH ty5 rfl (by first | omega | (simp only [List.length_set]; omega)) (hF.tmp 24 rfl) (hF.tmp 22 rfl) ?_
    clear hH; intro w hH
    clear hS; have hS : SL _ _ := SL.of hH (sub_nil _); refine ⟨hS, ?_⟩
    have hH := hH.relab 900 (Y := .row RB 5 v (swp d la pv).toList (fun _ => False)) rfl (by rw [swp_list])
    refine r_end (by kernel_rfl) ?_; clear hS
    exact hJr1 _ _ (swp d la pv) rfl (((hF.bare.add hF 2 rfl).add hF 1 rfl).add hF 0 rfl) (hH.sub _ (sub_cons (sub_nil _) 900 rfl))
  ·
    refine w_at hF (x_load1 ty5 (hF.tmp 21 rfl) ((Row.rdV (hH.row 900 rfl)).cellA (gi_some (xs := d.toList) (i := (la : Int)) (by omega) (by omega)))) rfl rfl ?_
    clear hF; intro a hF
    clear hS; have hS : SL _ _ := SL.of hH (sub_nil _); refine ⟨hS, ?_⟩
    refine r_do 7 rfl (by kernel_rfl) rfl rfl ?_
    refine w_at hF (x_load1 ty5 (hF.tmp 17 rfl) ((Row.rdV (hH.row 900 rfl)).cellA (gi_some (xs := d.toList) (i := (pv : Int)) (by omega) (by omega)))) rfl rfl ?_
    clear hF; intro a hF
    clear hS; have hS : SL _ _ := SL.of hH (sub_nil _); refine ⟨hS, ?_⟩
    refine r_take 12 hF rfl rfl rfl (by kernel_rfl) (by kernel_rfl) (by kernel_rfl) (fun _ _ _ h => h) rfl hS (fun w hS => x_iaddrV Try.underlying72 ty5 (hH.row 900 rfl) (hF.tmp 11 rfl) (hF.tmp 12 rfl) (by omega) (by omega) _) rfl ?_; clear hF; intro a hF
    refine r_do 13 rfl (by kernel_rfl) rfl rfl ?_
    refine w_setV (xs := d.toList) 900 la (gi d.toList ((pv : Nat) : Int)) hH ty5 rfl (by first | omega | (simp only [List.length_set]; omega)) (hF.tmp 23 rfl) (hF.tmp 18 rfl) ?_
    clear hH; intro w hH
    clear hS; have hS : SL _ _ := SL.of hH (sub_nil _); refine ⟨hS, ?_⟩
    refine r_take 14 hF rfl rfl rfl (by kernel_rfl) (by kernel_rfl) (by kernel_rfl) (fun _ _ _ h => h) rfl hS (fun w hS => x_iaddrV Try.underlying72 ty5 (hH.row 900 rfl) (hF.tmp 13 rfl) (hF.tmp 14 rfl) (by omega) (by first | omega | (simp only [List.length_set]; omega)) _) rfl ?_; clear hF; intro a hF
    refine r_do 15 rfl (by kernel_rfl) rfl rfl ?_
    refine w_setV (xs := (d.toList.set la (gi d.toList ((pv : Nat) : Int)))) 900 pv (gi d.toList ((la : Nat) : Int)) hH ty5 rfl (by first | omega | (simp only [List.length_set]; omega)) (hF.tmp 24 rfl) (hF.tmp 22 rfl) ?_
    clear hH; intro w hH
    clear hS; have hS : SL _ _ := SL.of hH (sub_nil _); refine ⟨hS, ?_⟩
    have hH := hH.relab 900 (Y := .row RB 5 v (swp d la pv).toList (fun _ => False)) rfl (by rw [swp_list])
    refine r_end (by kernel_rfl) ?_; clear hS
    exact hJr1 _ _ (swp d la pv) rfl (((hF.bare.add hF 2 rfl).add hF 1 rfl).add hF 0 rfl) (hH.sub _ (sub_cons (sub_nil _) 900 rfl))

end Go.Proofs.Ytlcnoibjhmflnaa.Act
