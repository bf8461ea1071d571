/- The great sort's partial insertion. -/
import Derived.Test.YtlcnoibjhmflnaaSrz
import Derived.Test.YtlcnoibjhmflnaaTriX
set_option linter.unusedVariables false
set_option linter.unusedSimpArgs false
namespace Go.Proofs.Ytlcnoibjhmflnaa.Act
open Go.RowKit Go.Proofs.Ytlcnoibjhmflnaa.Sx Go.Sort Go.Proofs.Ytlcnoibjhmflnaa.Cod
set_option maxRecDepth 100000 in
set_option maxHeartbeats 1000000 in
theorem pins_calls (w0 : World) {v : Value} {d : Array Int} (h : Row RB 5 w0 (fun _ => False) v d.toList) {la lb : Nat} (hab : la < lb) (hb : lb ≤ d.size) (hsz : d.size < 1000000000) : Calls Try.prog 50 #[v, .int .i64 (la : Int), .int .i64 (lb : Int)] w0 fun e w' => e = .returned (.bool (partialInsertionSort ltInt d la lb).2) ∧ Mods (fun k => v.ownBlock = some k) w0 w' ∧ Row RB 5 w' (fun _ => False) v ((partialInsertionSort ltInt d la lb).1).toList := by
  refine calls_of_wp Try.func50 rfl ?_
  have hF := Fr.enter #[v, .int .i64 (la : Int), .int .i64 (lb : Int)] 133 (slotsOf [v, .int .i64 (la : Int), .int .i64 (lb : Int)] 0) (Nat.le_of_ble_eq_true rfl) (fun i v h => by have h2 := (get_slotsOf _ 0 i v h).2; simpa only [List.getElem?_toArray, Nat.sub_zero] using h2)
  rw [Try.ntmps50]
  revert hF; generalize (⟨(#[v, .int .i64 (la : Int), .int .i64 (lb : Int)] : Array Value) ++ Array.replicate (133 - (#[v, .int .i64 (la : Int), .int .i64 (lb : Int)] : Array Value).size) undef, []⟩ : Act) = a; intro hF
  have hH := Hp.ownrow 900 h (fun _ h => h.elim) (fun _ _ h => h)
  have hdl : d.toList.length = d.size := by simp
  refine wp_seq_k fun khK1 hK1 => ?_
  refine wp_region_lit ?_
  refine l_at hF rfl rfl rfl (x_assign rfl) ?_; clear hF; intro a hF
  refine wpList_nil ?_
  refine hK1 _ _ ?_
  refine wp_seq_k fun khK2 hK2 => ?_
  refine wp_region_lit ?_
  refine l_at hF rfl rfl rfl (x_move (hF.tmp 1 rfl)) ?_; clear hF; intro a hF
  refine l_at hF rfl rfl rfl (x_add (hF.tmp 11 rfl) rfl (show IntKind.i64.wrap _ = ((la + 1 : Nat) : Int) from by rw [w64 (by omega) (by omega)] <;> omega)) ?_; clear hF; intro a hF
  refine l_at hF rfl rfl rfl (x_assign (hF.tmp 12 rfl)) ?_; clear hF; intro a hF
  refine wpList_nil ?_
  refine hK2 _ _ ?_
  refine wp_seq_k fun khK3 hK3 => ?_
  refine wp_seq_k fun khK4 hK4 => ?_
  refine wp_region_lit ?_
  refine l_at hF rfl rfl rfl (x_assign rfl) ?_; clear hF; intro a hF
  refine wpList_nil ?_
  refine hK4 _ _ ?_
  refine wp_block ?_
  refine wp_loop_ghost (fun n_ a w => ∃ s : Nat, ∃ i : Nat, ∃ dk : Array Int, n_ = 5 - s ∧ (la + 1 ≤ i) ∧ (i ≤ lb) ∧ (s ≤ 5) ∧ (dk.size = d.size) ∧ (partialIns ltInt la lb (5 - s) i dk = partialIns ltInt la lb 5 (la + 1) d) ∧ Fr 133 a [(0, v), (1, .int .i64 (la : Int)), (2, .int .i64 (lb : Int)), (7, .int .i64 (i : Int)), (8, .int .i64 (s : Int))] ∧ Hp (fun k => v.ownBlock = some k) w0 w [(900, .row RB 5 v dk.toList (fun _ => False))]) (5) ?_ ?_
  · exact ⟨0, la + 1, d, rfl, by omega, by omega, by omega, rfl, rfl, (((((hF.bare.add hF 8 rfl).add hF 7 rfl).add hF 2 rfl).add hF 1 rfl).add hF 0 rfl), hH.sub _ (sub_cons (sub_nil _) 900 rfl)⟩
  · rintro _ a w ⟨s, i, dk, rfl, hq0_0, hq0_1, hq0_2, hq0_3, hq0_4, hF, hH⟩
    have hl_dk : dk.toList.length = d.size := by simp only [Array.length_toList]; omega
    refine wp_seq_k fun khK5 hK5 => ?_
    refine wp_seq_k fun khK6 hK6 => ?_
    refine wp_region_lit ?_
    refine l_at hF rfl rfl rfl (x_move (hF.tmp 8 rfl)) ?_; clear hF; intro a hF
    refine l_at hF rfl rfl rfl (x_lss (hF.tmp 13 rfl) rfl) ?_; clear hF; intro a hF
    refine wpList_nil ?_
    refine hK6 _ _ ?_
    refine wp_cond_split (hF.tmp 14 rfl) (fun hc14 => ?_) (fun hc14 => ?_)
    · have hk14_1 := hc14; try simp only [Bool.or_eq_true, Bool.and_eq_true, Bool.or_eq_false_iff, Bool.and_eq_false_iff, Bool.not_eq_true', Bool.not_eq_false', decide_eq_true_eq, decide_eq_false_iff_not, Bool.not_true, Bool.not_false] at hc14
      refine wp_skip ?_
      refine hK5 _ _ ?_
      refine wp_seq_k fun khK7 hK7 => ?_
      refine wp_block ?_
      refine wp_seq_k fun khK8 hK8 => ?_
      refine wp_block ?_
      refine wp_loop_ghost (fun n_ a w => ∃ i2 : Nat, n_ = lb - i2 ∧ (i ≤ i2) ∧ (i2 ≤ lb) ∧ (scanSorted ltInt dk lb i2 = scanSorted ltInt dk lb i) ∧ Fr 133 a [(0, v), (1, .int .i64 (la : Int)), (2, .int .i64 (lb : Int)), (7, .int .i64 (i2 : Int)), (8, .int .i64 (s : Int))] ∧ Hp (fun k => v.ownBlock = some k) w0 w [(900, .row RB 5 v dk.toList (fun _ => False))]) (lb - i) ?_ ?_
      · exact ⟨i, rfl, by omega, by omega, rfl, (((((hF.bare.add hF 8 rfl).add hF 7 rfl).add hF 2 rfl).add hF 1 rfl).add hF 0 rfl), hH.sub _ (sub_cons (sub_nil _) 900 rfl)⟩
      · rintro _ a w ⟨i2, rfl, hq2_0, hq2_1, hq2_2, hF, hH⟩
        refine wp_seq_k fun khK9 hK9 => ?_
        refine wp_seq_k fun khK10 hK10 => ?_
        have hJr5 : ∀ a w, ∀ c5 : Bool, (c5 = (decide (i2 < lb) && !ltInt dk[i2]! dk[i2 - 1]!)) → Fr 133 a [(0, v), (1, .int .i64 (la : Int)), (2, .int .i64 (lb : Int)), (7, .int .i64 (i2 : Int)), (8, .int .i64 (s : Int)), (32, .bool c5)] → Hp (fun k => v.ownBlock = some k) w0 w [(900, .row RB 5 v dk.toList (fun _ => False))] → khK10 a w := by
          intro a w c5 hjr5_0 hF hH
          refine hK10 a w ?_
          refine wp_cond_split (hF.tmp 32 rfl) (fun hc32 => ?_) (fun hc32 => ?_)
          · have hk32_2 := hc32; try simp only [Bool.or_eq_true, Bool.and_eq_true, Bool.or_eq_false_iff, Bool.and_eq_false_iff, Bool.not_eq_true', Bool.not_eq_false', decide_eq_true_eq, decide_eq_false_iff_not, Bool.not_true, Bool.not_false] at hc32
            have hs32 := sc_of hjr5_0 hc32
            refine wp_skip ?_
            refine hK9 _ _ ?_
            refine wp_block ?_
            refine wp_region_lit ?_
            refine l_at hF rfl rfl rfl (x_move (hF.tmp 7 rfl)) ?_; clear hF; intro a hF
            refine l_at hF rfl rfl rfl (x_add (hF.tmp 33 rfl) rfl (show IntKind.i64.wrap _ = ((i2 + 1 : Nat) : Int) from by rw [w64 (by omega) (by omega)] <;> omega)) ?_; clear hF; intro a hF
            refine l_at hF rfl rfl rfl (x_assign (hF.tmp 34 rfl)) ?_; clear hF; intro a hF
            refine wpList_nil ?_
            exact ⟨_, by omega, ⟨i2 + 1, rfl, by omega, by omega, (by rw [ss_on hs32]; exact hq2_2), (((((hF.bare.add hF 8 rfl).add hF 7 rfl).add hF 2 rfl).add hF 1 rfl).add hF 0 rfl), hH.sub _ (sub_cons (sub_nil _) 900 rfl)⟩⟩
          · have hk32_3 := hc32; try simp only [Bool.or_eq_true, Bool.and_eq_true, Bool.or_eq_false_iff, Bool.and_eq_false_iff, Bool.not_eq_true', Bool.not_eq_false', decide_eq_true_eq, decide_eq_false_iff_not, Bool.not_true, Bool.not_false] at hc32
            have ho32 := ss_off (sc_no hjr5_0 hc32)
            refine wp_exit ?_
            refine hK8 _ _ ?_
            refine wp_seq_k fun khK11 hK11 => ?_
            refine wp_seq_k fun khK12 hK12 => ?_
            refine wp_region_lit ?_
            refine l_at hF rfl rfl rfl (x_move (hF.tmp 7 rfl)) ?_; clear hF; intro a hF
            refine l_at hF rfl rfl rfl (x_move (hF.tmp 2 rfl)) ?_; clear hF; intro a hF
            refine l_at hF rfl rfl rfl (x_eql (hF.tmp 35 rfl) (hF.tmp 36 rfl)) ?_; clear hF; intro a hF
            refine wpList_nil ?_
            refine hK12 _ _ ?_
            refine wp_cond_split (hF.tmp 37 rfl) (fun hc37 => ?_) (fun hc37 => ?_)
            · have hk37_4 := hc37; try simp only [Bool.or_eq_true, Bool.and_eq_true, Bool.or_eq_false_iff, Bool.and_eq_false_iff, Bool.not_eq_true', Bool.not_eq_false', decide_eq_true_eq, decide_eq_false_iff_not, Bool.not_true, Bool.not_false] at hc37
              refine wp_seq_k fun khK13 hK13 => ?_
              refine wp_region_lit ?_
              refine l_at hF rfl rfl rfl (x_assign rfl) ?_; clear hF; intro a hF
              refine wpList_nil ?_
              refine hK13 _ _ ?_
              refine wp_ret ?_
              try simp only [Exit.then, Exit.inBlock]
              have hpt : partialInsertionSort ltInt d la lb = (dk, true) := hq0_4.symm.trans (pi_true (by omega) (hq2_2 ▸ ho32) (by omega))
              exact fin_ret hF (res1 hF rfl rfl) ⟨by rw [hpt] <;> rfl, hH.mods, by rw [hpt]; exact hH.row 900 rfl⟩
            · have hk37_5 := hc37; try simp only [Bool.or_eq_true, Bool.and_eq_true, Bool.or_eq_false_iff, Bool.and_eq_false_iff, Bool.not_eq_true', Bool.not_eq_false', decide_eq_true_eq, decide_eq_false_iff_not, Bool.not_true, Bool.not_false] at hc37
              refine wp_skip ?_
              refine hK11 _ _ ?_
              refine wp_seq_k fun khK14 hK14 => ?_
              refine wp_seq_k fun khK15 hK15 => ?_
              refine wp_region_lit ?_
              refine l_at hF rfl rfl rfl (x_move (hF.tmp 2 rfl)) ?_; clear hF; intro a hF
              refine l_at hF rfl rfl rfl (x_move (hF.tmp 1 rfl)) ?_; clear hF; intro a hF
              refine l_at hF rfl rfl rfl (x_sub (hF.tmp 38 rfl) (hF.tmp 39 rfl) (show IntKind.i64.wrap _ = ((lb - la : Nat) : Int) from by rw [w64 (by omega) (by omega)] <;> omega)) ?_; clear hF; intro a hF
              refine l_at hF rfl rfl rfl (x_lss (hF.tmp 40 rfl) rfl) ?_; clear hF; intro a hF
              refine wpList_nil ?_
              refine hK15 _ _ ?_
              refine wp_cond_split (hF.tmp 41 rfl) (fun hc41 => ?_) (fun hc41 => ?_)
              · have hk41_6 := hc41; try simp only [Bool.or_eq_true, Bool.and_eq_true, Bool.or_eq_false_iff, Bool.and_eq_false_iff, Bool.not_eq_true', Bool.not_eq_false', decide_eq_true_eq, decide_eq_false_iff_not, Bool.not_true, Bool.not_false] at hc41
                refine wp_seq_k fun khK16 hK16 => ?_
                refine wp_region_lit ?_
                refine l_at hF rfl rfl rfl (x_assign rfl) ?_; clear hF; intro a hF
                refine wpList_nil ?_
                refine hK16 _ _ ?_
                refine wp_ret ?_
                try simp only [Exit.then, Exit.inBlock]
                have hpt : partialInsertionSort ltInt d la lb = (dk, false) := hq0_4.symm.trans (pi_short (by omega) (hq2_2 ▸ ho32) (by omega) (by omega))
                exact fin_ret hF (res1 hF rfl rfl) ⟨by rw [hpt] <;> rfl, hH.mods, by rw [hpt]; exact hH.row 900 rfl⟩
              · have hk41_7 := hc41; try simp only [Bool.or_eq_true, Bool.and_eq_true, Bool.or_eq_false_iff, Bool.and_eq_false_iff, Bool.not_eq_true', Bool.not_eq_false', decide_eq_true_eq, decide_eq_false_iff_not, Bool.not_true, Bool.not_false] at hc41
                refine wp_skip ?_
                refine hK14 _ _ ?_
                refine wp_seq_k fun khK17 hK17 => ?_
                have hJr11 : ∀ a w, Fr 133 a [(0, v), (1, .int .i64 (la : Int)), (2, .int .i64 (lb : Int)), (7, .int .i64 (i2 : Int)), (8, .int .i64 (s : Int))] → Hp (fun k => v.ownBlock = some k) w0 w [(900, .row RB 5 v (swp dk i2 (i2 - 1)).toList (fun _ => False))] → khK17 a w := by
                  intro a w  hF hH
                  refine hK17 a w ?_
                  refine wp_seq_k fun khK18 hK18 => ?_
                  refine wp_seq_k fun khK19 hK19 => ?_
                  refine wp_region_lit ?_
                  refine l_at hF rfl rfl rfl (x_move (hF.tmp 7 rfl)) ?_; clear hF; intro a hF
                  refine l_at hF rfl rfl rfl (x_move (hF.tmp 1 rfl)) ?_; clear hF; intro a hF
                  refine l_at hF rfl rfl rfl (x_sub (hF.tmp 58 rfl) (hF.tmp 59 rfl) (show IntKind.i64.wrap _ = ((i2 - la : Nat) : Int) from by rw [w64 (by omega) (by omega)] <;> omega)) ?_; clear hF; intro a hF
                  refine l_at hF rfl rfl rfl (x_geq (hF.tmp 60 rfl) rfl) ?_; clear hF; intro a hF
                  refine wpList_nil ?_
                  refine hK19 _ _ ?_
                  have hJ61 : ∀ a w, ∀ da : Array Int, (da.size = d.size) → (da = if i2 - la ≥ 2 then shiftDown ltInt (i2 - 1) (swp dk i2 (i2 - 1)) else (swp dk i2 (i2 - 1))) → Fr 133 a [(0, v), (1, .int .i64 (la : Int)), (2, .int .i64 (lb : Int)), (7, .int .i64 (i2 : Int)), (8, .int .i64 (s : Int))] → Hp (fun k => v.ownBlock = some k) w0 w [(900, .row RB 5 v da.toList (fun _ => False))] → khK18 a w := by
                    intro a w da hj61_0 hj61_1 hF hH
                    refine hK18 a w ?_
                    have hl_da : da.toList.length = d.size := by simp only [Array.length_toList]; omega
                    refine wp_seq_k fun khK20 hK20 => ?_
                    refine wp_region_lit ?_
                    refine l_at hF rfl rfl rfl (x_move (hF.tmp 2 rfl)) ?_; clear hF; intro a hF
                    refine l_at hF rfl rfl rfl (x_move (hF.tmp 7 rfl)) ?_; clear hF; intro a hF
                    refine l_at hF rfl rfl rfl (x_sub (hF.tmp 95 rfl) (hF.tmp 96 rfl) (show IntKind.i64.wrap _ = ((lb - i2 : Nat) : Int) from by rw [w64 (by omega) (by omega)] <;> omega)) ?_; clear hF; intro a hF
                    refine l_at hF rfl rfl rfl (x_geq (hF.tmp 97 rfl) rfl) ?_; clear hF; intro a hF
                    refine wpList_nil ?_
                    refine hK20 _ _ ?_
                    refine wp_norm_k fun khK21 hK21 => ?_
                    have hJ98 : ∀ a w, ∀ db : Array Int, (db.size = d.size) → (db = if lb - i2 ≥ 2 then shiftUp ltInt lb (i2 + 1) da else da) → Fr 133 a [(0, v), (1, .int .i64 (la : Int)), (2, .int .i64 (lb : Int)), (7, .int .i64 (i2 : Int)), (8, .int .i64 (s : Int))] → Hp (fun k => v.ownBlock = some k) w0 w [(900, .row RB 5 v db.toList (fun _ => False))] → khK21 a w := by
                      intro a w db hj98_0 hj98_1 hF hH
                      refine hK21 a w ?_
                      have hl_db : db.toList.length = d.size := by simp only [Array.length_toList]; omega
                      refine hK7 _ _ ?_
                      refine wp_region_lit ?_
                      refine l_at hF rfl rfl rfl (x_move (hF.tmp 8 rfl)) ?_; clear hF; intro a hF
                      refine l_at hF rfl rfl rfl (x_add (hF.tmp 15 rfl) rfl (show IntKind.i64.wrap _ = ((s + 1 : Nat) : Int) from by rw [w64 (by omega) (by omega)] <;> omega)) ?_; clear hF; intro a hF
                      refine l_at hF rfl rfl rfl (x_assign (hF.tmp 16 rfl)) ?_; clear hF; intro a hF
                      refine wpList_nil ?_
                      exact ⟨_, by omega, ⟨s + 1, i2, db, rfl, by omega, by omega, by omega, hj98_0, (by rw [show 5 - (s + 1) = 5 - s - 1 by omega, pi_step (by omega) (hq2_2 ▸ ho32) (by omega) (by omega) hj61_1 hj98_1]; exact hq0_4), (((((hF.bare.add hF 8 rfl).add hF 7 rfl).add hF 2 rfl).add hF 1 rfl).add hF 0 rfl), hH.sub _ (sub_cons (sub_nil _) 900 rfl)⟩⟩
                    refine wp_cond_split (hF.tmp 98 rfl) (fun hc98 => ?_) (fun hc98 => ?_)
                    · have hk98_8 := hc98; try simp only [Bool.or_eq_true, Bool.and_eq_true, Bool.or_eq_false_iff, Bool.and_eq_false_iff, Bool.not_eq_true', Bool.not_eq_false', decide_eq_true_eq, decide_eq_false_iff_not, Bool.not_true, Bool.not_false] at hc98
                      refine wp_seq_k fun khK22 hK22 => ?_
                      refine wp_region_lit ?_
                      refine l_at hF rfl rfl rfl (x_move (hF.tmp 7 rfl)) ?_; clear hF; intro a hF
                      refine l_at hF rfl rfl rfl (x_add (hF.tmp 99 rfl) rfl (show IntKind.i64.wrap _ = ((i2 + 1 : Nat) : Int) from by rw [w64 (by omega) (by omega)] <;> omega)) ?_; clear hF; intro a hF
                      refine l_at hF rfl rfl rfl (x_assign (hF.tmp 100 rfl)) ?_; clear hF; intro a hF
                      refine wpList_nil ?_
                      refine hK22 _ _ ?_
                      refine wp_block ?_
                      refine wp_loop_ghost (fun n_ a w => ∃ j6 : Nat, ∃ d6 : Array Int, n_ = lb - j6 ∧ (i2 + 1 ≤ j6) ∧ (j6 ≤ lb) ∧ (d6.size = d.size) ∧ (shiftUp ltInt lb j6 d6 = shiftUp ltInt lb (i2 + 1) da) ∧ Fr 133 a [(0, v), (1, .int .i64 (la : Int)), (2, .int .i64 (lb : Int)), (7, .int .i64 (i2 : Int)), (8, .int .i64 (s : Int)), (10, .int .i64 (j6 : Int))] ∧ Hp (fun k => v.ownBlock = some k) w0 w [(900, .row RB 5 v d6.toList (fun _ => False))]) (lb - (i2 + 1)) ?_ ?_
                      · exact ⟨i2 + 1, da, rfl, by omega, by omega, hj61_0, rfl, ((((((hF.bare.add hF 10 rfl).add hF 8 rfl).add hF 7 rfl).add hF 2 rfl).add hF 1 rfl).add hF 0 rfl), hH.sub _ (sub_cons (sub_nil _) 900 rfl)⟩
                      · rintro _ a w ⟨j6, d6, rfl, hq6_0, hq6_1, hq6_2, hq6_3, hF, hH⟩
                        have hl_d6 : d6.toList.length = d.size := by simp only [Array.length_toList]; omega
                        refine wp_seq_k fun khK23 hK23 => ?_
                        refine wp_seq_k fun khK24 hK24 => ?_
                        refine wp_region_lit ?_
                        refine l_at hF rfl rfl rfl (x_move (hF.tmp 10 rfl)) ?_; clear hF; intro a hF
                        refine l_at hF rfl rfl rfl (x_move (hF.tmp 2 rfl)) ?_; clear hF; intro a hF
                        refine l_at hF rfl rfl rfl (x_lss (hF.tmp 101 rfl) (hF.tmp 102 rfl)) ?_; clear hF; intro a hF
                        refine wpList_nil ?_
                        refine hK24 _ _ ?_
                        refine wp_cond_split (hF.tmp 103 rfl) (fun hc103 => ?_) (fun hc103 => ?_)
                        · have hk103_9 := hc103; try simp only [Bool.or_eq_true, Bool.and_eq_true, Bool.or_eq_false_iff, Bool.and_eq_false_iff, Bool.not_eq_true', Bool.not_eq_false', decide_eq_true_eq, decide_eq_false_iff_not, Bool.not_true, Bool.not_false] at hc103
                          refine wp_skip ?_
                          refine hK23 _ _ ?_
                          refine wp_seq_k fun khK25 hK25 => ?_
                          refine wp_block ?_
                          refine wp_seq_k fun khK26 hK26 => ?_
                          refine wp_seq_k fun khK27 hK27 => ?_
                          refine r_start [(900, .row RB 5 v d6.toList (fun _ => False))] (by kernel_rfl) hH fun hH => ?_
                          have hS : SL [(900, .row RB 5 v d6.toList (fun _ => False))] _ := SL.of hH (sub_cons (sub_nil _) 900 rfl)
                          refine r_take 0 hF rfl rfl rfl (by kernel_rfl) (by kernel_rfl) (by kernel_rfl) (fun _ _ _ h => h) rfl hS (fun w hS => x_move (hF.tmp 0 rfl)) rfl ?_; clear hF; intro a hF
                          refine r_take 1 hF rfl rfl rfl (by kernel_rfl) (by kernel_rfl) (by kernel_rfl) (fun _ _ _ h => h) rfl hS (fun w hS => x_move (hF.tmp 10 rfl)) rfl ?_; clear hF; intro a hF
                          refine r_take 2 hF rfl rfl rfl (by kernel_rfl) (by kernel_rfl) (by kernel_rfl) (fun _ _ _ h => h) rfl hS (fun w hS => x_iaddrV Try.underlying72 ty5 (hH.row 900 rfl) (hF.tmp 106 rfl) (hF.tmp 107 rfl) (by omega) (by omega) _) rfl ?_; clear hF; intro a hF
                          refine r_take 3 hF rfl rfl rfl (by kernel_rfl) (by kernel_rfl) (by kernel_rfl) (fun _ _ _ h => h) rfl hS (fun w hS => x_load1 ty5 (hF.tmp 108 rfl) ((Row.rdV (SL.row hS 900 rfl)).cellA (gi_some (xs := d6.toList) (i := (j6 : Int)) (by omega) (by omega)))) rfl ?_; clear hF; intro a hF
                          refine r_take 4 hF rfl rfl rfl (by kernel_rfl) (by kernel_rfl) (by kernel_rfl) (fun _ _ _ h => h) rfl hS (fun w hS => x_move (hF.tmp 0 rfl)) rfl ?_; clear hF; intro a hF
                          refine r_take 5 hF rfl rfl rfl (by kernel_rfl) (by kernel_rfl) (by kernel_rfl) (fun _ _ _ h => h) rfl hS (fun w hS => x_move (hF.tmp 10 rfl)) rfl ?_; clear hF; intro a hF
                          refine r_take 6 hF rfl rfl rfl (by kernel_rfl) (by kernel_rfl) (by kernel_rfl) (fun _ _ _ h => h) rfl hS (fun w hS => x_sub (hF.tmp 111 rfl) rfl (show IntKind.i64.wrap _ = ((j6 - 1 : Nat) : Int) from by rw [w64 (by omega) (by omega)] <;> omega)) rfl ?_; clear hF; intro a hF
                          refine r_take 7 hF rfl rfl rfl (by kernel_rfl) (by kernel_rfl) (by kernel_rfl) (fun _ _ _ h => h) rfl hS (fun w hS => x_iaddrV Try.underlying72 ty5 (hH.row 900 rfl) (hF.tmp 110 rfl) (hF.tmp 112 rfl) (by omega) (by omega) _) rfl ?_; clear hF; intro a hF
                          refine r_take 8 hF rfl rfl rfl (by kernel_rfl) (by kernel_rfl) (by kernel_rfl) (fun _ _ _ h => h) rfl hS (fun w hS => x_load1 ty5 (hF.tmp 113 rfl) ((Row.rdV (SL.row hS 900 rfl)).cellA (gi_some (xs := d6.toList) (i := ((j6 - 1 : Nat) : Int)) (by omega) (by omega)))) rfl ?_; clear hF; intro a hF
                          refine r_do 9 rfl (by kernel_rfl) rfl rfl ?_
                          refine w_call hF (x_enter Try.func51 (by kernel_rfl) rfl (by simp only [List.map_toArray, List.map_cons, List.map_nil, hF.tmp 109 rfl, hF.tmp 114 rfl] <;> rfl)) (less_calls _ _ _) rfl rfl ?_
                          rintro _ w ⟨rfl, hm_⟩; refine ⟨_, rfl, ?_⟩; clear hF; intro a hF; have hH := hH.same hm_
                          clear hS; have hS : SL _ _ := SL.of hH (sub_cons (sub_nil _) 900 rfl); refine ⟨hS, ?_⟩
                          refine r_take 10 hF rfl rfl rfl (by kernel_rfl) (by kernel_rfl) (by kernel_rfl) (fun _ _ _ h => h) rfl hS (fun w hS => x_not (hF.tmp 115 rfl)) rfl ?_; clear hF; intro a hF
                          refine r_end (by kernel_rfl) ?_; clear hS
                          refine hK27 _ _ ?_
                          refine wp_cond_split (hF.tmp 116 rfl) (fun hc116 => ?_) (fun hc116 => ?_)
                          · have hk116_10 := hc116; try simp only [Bool.or_eq_true, Bool.and_eq_true, Bool.or_eq_false_iff, Bool.and_eq_false_iff, Bool.not_eq_true', Bool.not_eq_false', decide_eq_true_eq, decide_eq_false_iff_not, Bool.not_true, Bool.not_false] at hc116
                            have h116 : (!ltInt d6[j6]! d6[j6 - 1]!) = true := by rw [← nlt_g]; simpa using hc116
                            refine wp_exit ?_
                            exact hJ98 _ _ d6 hq6_2 (by rw [if_pos (by omega), ← hq6_3]; first | exact (sup_off1 (by omega)).symm | exact (sup_off2 h116).symm) (((((hF.bare.add hF 8 rfl).add hF 7 rfl).add hF 2 rfl).add hF 1 rfl).add hF 0 rfl) (hH.sub _ (sub_cons (sub_nil _) 900 rfl))
                          · have hk116_11 := hc116; try simp only [Bool.or_eq_true, Bool.and_eq_true, Bool.or_eq_false_iff, Bool.and_eq_false_iff, Bool.not_eq_true', Bool.not_eq_false', decide_eq_true_eq, decide_eq_false_iff_not, Bool.not_true, Bool.not_false] at hc116
                            have h116 : ¬ (!ltInt d6[j6]! d6[j6 - 1]!) = true := by rw [← nlt_g]; simpa using hc116
                            refine wp_skip ?_
                            refine hK26 _ _ ?_
                            refine wp_norm_k fun khK28 hK28 => ?_
                            have hJr23 : ∀ a w, Fr 133 a [(0, v), (1, .int .i64 (la : Int)), (2, .int .i64 (lb : Int)), (7, .int .i64 (i2 : Int)), (8, .int .i64 (s : Int)), (10, .int .i64 (j6 : Int))] → Hp (fun k => v.ownBlock = some k) w0 w [(900, .row RB 5 v (swp d6 j6 (j6 - 1)).toList (fun _ => False))] → khK28 a w := by
                              intro a w  hF hH
                              refine hK28 a w ?_
                              refine hK25 _ _ ?_
                              refine wp_region_lit ?_
                              refine l_at hF rfl rfl rfl (x_move (hF.tmp 10 rfl)) ?_; clear hF; intro a hF
                              refine l_at hF rfl rfl rfl (x_add (hF.tmp 104 rfl) rfl (show IntKind.i64.wrap _ = ((j6 + 1 : Nat) : Int) from by rw [w64 (by omega) (by omega)] <;> omega)) ?_; clear hF; intro a hF
                              refine l_at hF rfl rfl rfl (x_assign (hF.tmp 105 rfl)) ?_; clear hF; intro a hF
                              refine wpList_nil ?_
                              exact ⟨_, by omega, ⟨j6 + 1, (swp d6 j6 (j6 - 1)), rfl, by omega, by omega, (by rw [Sx.swp_size]; exact hq6_2), (by rw [sup_on (by omega) h116]; exact hq6_3), ((((((hF.bare.add hF 10 rfl).add hF 8 rfl).add hF 7 rfl).add hF 2 rfl).add hF 1 rfl).add hF 0 rfl), hH.sub _ (sub_cons (sub_nil _) 900 rfl)⟩⟩
                            refine r_start [] (by kernel_rfl) hH fun hH => ?_
                            have hS : SL [] _ := SL.of hH (sub_nil _)
                            refine r_take 0 hF rfl rfl rfl (by kernel_rfl) (by kernel_rfl) (by kernel_rfl) (fun _ _ _ h => h) rfl hS (fun w hS => x_move (hF.tmp 0 rfl)) rfl ?_; clear hF; intro a hF
                            refine r_take 1 hF rfl rfl rfl (by kernel_rfl) (by kernel_rfl) (by kernel_rfl) (fun _ _ _ h => h) rfl hS (fun w hS => x_move (hF.tmp 10 rfl)) rfl ?_; clear hF; intro a hF
                            refine r_take 2 hF rfl rfl rfl (by kernel_rfl) (by kernel_rfl) (by kernel_rfl) (fun _ _ _ h => h) rfl hS (fun w hS => x_move (hF.tmp 0 rfl)) rfl ?_; clear hF; intro a hF
                            refine r_take 3 hF rfl rfl rfl (by kernel_rfl) (by kernel_rfl) (by kernel_rfl) (fun _ _ _ h => h) rfl hS (fun w hS => x_move (hF.tmp 10 rfl)) rfl ?_; clear hF; intro a hF
                            refine r_take 4 hF rfl rfl rfl (by kernel_rfl) (by kernel_rfl) (by kernel_rfl) (fun _ _ _ h => h) rfl hS (fun w hS => x_sub (hF.tmp 120 rfl) rfl (show IntKind.i64.wrap _ = ((j6 - 1 : Nat) : Int) from by rw [w64 (by omega) (by omega)] <;> omega)) rfl ?_; clear hF; intro a hF
                            refine r_take 5 hF rfl rfl rfl (by kernel_rfl) (by kernel_rfl) (by kernel_rfl) (fun _ _ _ h => h) rfl hS (fun w hS => x_move (hF.tmp 0 rfl)) rfl ?_; clear hF; intro a hF
                            refine r_take 6 hF rfl rfl rfl (by kernel_rfl) (by kernel_rfl) (by kernel_rfl) (fun _ _ _ h => h) rfl hS (fun w hS => x_move (hF.tmp 10 rfl)) rfl ?_; clear hF; intro a hF
                            refine r_take 7 hF rfl rfl rfl (by kernel_rfl) (by kernel_rfl) (by kernel_rfl) (fun _ _ _ h => h) rfl hS (fun w hS => x_sub (hF.tmp 123 rfl) rfl (show IntKind.i64.wrap _ = ((j6 - 1 : Nat) : Int) from by rw [w64 (by omega) (by omega)] <;> omega)) rfl ?_; clear hF; intro a hF
                            refine r_take 8 hF rfl rfl rfl (by kernel_rfl) (by kernel_rfl) (by kernel_rfl) (fun _ _ _ h => h) rfl hS (fun w hS => x_iaddrV Try.underlying72 ty5 (hH.row 900 rfl) (hF.tmp 122 rfl) (hF.tmp 124 rfl) (by omega) (by omega) _) rfl ?_; clear hF; intro a hF
                            refine r_take 10 hF rfl rfl rfl (by kernel_rfl) (by kernel_rfl) (by kernel_rfl) (fun _ _ _ h => h) rfl hS (fun w hS => x_move (hF.tmp 0 rfl)) rfl ?_; clear hF; intro a hF
                            refine r_take 11 hF rfl rfl rfl (by kernel_rfl) (by kernel_rfl) (by kernel_rfl) (fun _ _ _ h => h) rfl hS (fun w hS => x_move (hF.tmp 10 rfl)) rfl ?_; clear hF; intro a hF
                            refine r_take 12 hF rfl rfl rfl (by kernel_rfl) (by kernel_rfl) (by kernel_rfl) (fun _ _ _ h => h) rfl hS (fun w hS => x_iaddrV Try.underlying72 ty5 (hH.row 900 rfl) (hF.tmp 127 rfl) (hF.tmp 128 rfl) (by omega) (by omega) _) rfl ?_; clear hF; intro a hF
                            refine r_do2 9 13 rfl rfl (by kernel_rfl) rfl rfl rfl rfl ?_ ?_
                            ·
                              refine w_at hF (x_load1 ty5 (hF.tmp 125 rfl) ((Row.rdV (hH.row 900 rfl)).cellA (gi_some (xs := d6.toList) (i := ((j6 - 1 : Nat) : Int)) (by omega) (by omega)))) rfl rfl ?_
                              clear hF; intro a hF
                              clear hS; have hS : SL _ _ := SL.of hH (sub_nil _); refine ⟨hS, ?_⟩
                              refine r_do 13 rfl (by kernel_rfl) rfl rfl ?_
                              refine w_at hF (x_load1 ty5 (hF.tmp 129 rfl) ((Row.rdV (hH.row 900 rfl)).cellA (gi_some (xs := d6.toList) (i := (j6 : Int)) (by omega) (by omega)))) rfl rfl ?_
                              clear hF; intro a hF
                              clear hS; have hS : SL _ _ := SL.of hH (sub_nil _); refine ⟨hS, ?_⟩
                              refine r_take 14 hF rfl rfl rfl (by kernel_rfl) (by kernel_rfl) (by kernel_rfl) (fun _ _ _ h => h) rfl hS (fun w hS => x_iaddrV Try.underlying72 ty5 (hH.row 900 rfl) (hF.tmp 117 rfl) (hF.tmp 118 rfl) (by omega) (by omega) _) rfl ?_; clear hF; intro a hF
                              refine r_do 15 rfl (by kernel_rfl) rfl rfl ?_
                              refine w_setV (xs := d6.toList) 900 j6 (gi d6.toList (((j6 - 1) : Nat) : Int)) hH ty5 rfl (by first | omega | (simp only [List.length_set]; omega)) (hF.tmp 131 rfl) (hF.tmp 126 rfl) ?_
                              clear hH; intro w hH
                              clear hS; have hS : SL _ _ := SL.of hH (sub_nil _); refine ⟨hS, ?_⟩
                              refine r_take 16 hF rfl rfl rfl (by kernel_rfl) (by kernel_rfl) (by kernel_rfl) (fun _ _ _ h => h) rfl hS (fun w hS => x_iaddrV Try.underlying72 ty5 (hH.row 900 rfl) (hF.tmp 119 rfl) (hF.tmp 121 rfl) (by omega) (by first | omega | (simp only [List.length_set]; omega)) _) rfl ?_; clear hF; intro a hF
                              refine r_do 17 rfl (by kernel_rfl) rfl rfl ?_
                              refine w_setV (xs := (d6.toList.set j6 (gi d6.toList (((j6 - 1) : Nat) : Int)))) 900 (j6 - 1) (gi d6.toList ((j6 : Nat) : Int)) hH ty5 rfl (by first | omega | (simp only [List.length_set]; omega)) (hF.tmp 132 rfl) (hF.tmp 130 rfl) ?_
                              clear hH; intro w hH
                              clear hS; have hS : SL _ _ := SL.of hH (sub_nil _); refine ⟨hS, ?_⟩
                              have hH := hH.relab 900 (Y := .row RB 5 v (swp d6 j6 (j6 - 1)).toList (fun _ => False)) rfl (by rw [swp_list])
                              refine r_end (by kernel_rfl) ?_; clear hS
                              exact hJr23 _ _  ((((((hF.bare.add hF 10 rfl).add hF 8 rfl).add hF 7 rfl).add hF 2 rfl).add hF 1 rfl).add hF 0 rfl) (hH.sub _ (sub_cons (sub_nil _) 900 rfl))
                            ·
                              refine w_at hF (x_load1 ty5 (hF.tmp 129 rfl) ((Row.rdV (hH.row 900 rfl)).cellA (gi_some (xs := d6.toList) (i := (j6 : Int)) (by omega) (by omega)))) rfl rfl ?_
                              clear hF; intro a hF
                              clear hS; have hS : SL _ _ := SL.of hH (sub_nil _); refine ⟨hS, ?_⟩
                              refine r_do 9 rfl (by kernel_rfl) rfl rfl ?_
                              refine w_at hF (x_load1 ty5 (hF.tmp 125 rfl) ((Row.rdV (hH.row 900 rfl)).cellA (gi_some (xs := d6.toList) (i := ((j6 - 1 : Nat) : Int)) (by omega) (by omega)))) rfl rfl ?_
                              clear hF; intro a hF
                              clear hS; have hS : SL _ _ := SL.of hH (sub_nil _); refine ⟨hS, ?_⟩
                              refine r_take 14 hF rfl rfl rfl (by kernel_rfl) (by kernel_rfl) (by kernel_rfl) (fun _ _ _ h => h) rfl hS (fun w hS => x_iaddrV Try.underlying72 ty5 (hH.row 900 rfl) (hF.tmp 117 rfl) (hF.tmp 118 rfl) (by omega) (by omega) _) rfl ?_; clear hF; intro a hF
                              refine r_do 15 rfl (by kernel_rfl) rfl rfl ?_
                              refine w_setV (xs := d6.toList) 900 j6 (gi d6.toList (((j6 - 1) : Nat) : Int)) hH ty5 rfl (by first | omega | (simp only [List.length_set]; omega)) (hF.tmp 131 rfl) (hF.tmp 126 rfl) ?_
                              clear hH; intro w hH
                              clear hS; have hS : SL _ _ := SL.of hH (sub_nil _); refine ⟨hS, ?_⟩
                              refine r_take 16 hF rfl rfl rfl (by kernel_rfl) (by kernel_rfl) (by kernel_rfl) (fun _ _ _ h => h) rfl hS (fun w hS => x_iaddrV Try.underlying72 ty5 (hH.row 900 rfl) (hF.tmp 119 rfl) (hF.tmp 121 rfl) (by omega) (by first | omega | (simp only [List.length_set]; omega)) _) rfl ?_; clear hF; intro a hF
                              refine r_do 17 rfl (by kernel_rfl) rfl rfl ?_
                              refine w_setV (xs := (d6.toList.set j6 (gi d6.toList (((j6 - 1) : Nat) : Int)))) 900 (j6 - 1) (gi d6.toList ((j6 : Nat) : Int)) hH ty5 rfl (by first | omega | (simp only [List.length_set]; omega)) (hF.tmp 132 rfl) (hF.tmp 130 rfl) ?_
                              clear hH; intro w hH
                              clear hS; have hS : SL _ _ := SL.of hH (sub_nil _); refine ⟨hS, ?_⟩
                              have hH := hH.relab 900 (Y := .row RB 5 v (swp d6 j6 (j6 - 1)).toList (fun _ => False)) rfl (by rw [swp_list])
                              refine r_end (by kernel_rfl) ?_; clear hS
                              exact hJr23 _ _  ((((((hF.bare.add hF 10 rfl).add hF 8 rfl).add hF 7 rfl).add hF 2 rfl).add hF 1 rfl).add hF 0 rfl) (hH.sub _ (sub_cons (sub_nil _) 900 rfl))
                        · have hk103_12 := hc103; try simp only [Bool.or_eq_true, Bool.and_eq_true, Bool.or_eq_false_iff, Bool.and_eq_false_iff, Bool.not_eq_true', Bool.not_eq_false', decide_eq_true_eq, decide_eq_false_iff_not, Bool.not_true, Bool.not_false] at hc103
                          refine wp_exit ?_
                          exact hJ98 _ _ d6 hq6_2 (by rw [if_pos (by omega), ← hq6_3]; first | exact (sup_off1 (by omega)).symm | exact (sup_off2 h116).symm) (((((hF.bare.add hF 8 rfl).add hF 7 rfl).add hF 2 rfl).add hF 1 rfl).add hF 0 rfl) (hH.sub _ (sub_cons (sub_nil _) 900 rfl))
                    · have hk98_13 := hc98; try simp only [Bool.or_eq_true, Bool.and_eq_true, Bool.or_eq_false_iff, Bool.and_eq_false_iff, Bool.not_eq_true', Bool.not_eq_false', decide_eq_true_eq, decide_eq_false_iff_not, Bool.not_true, Bool.not_false] at hc98
                      refine wp_skip ?_
                      exact hJ98 _ _ da hj61_0 (by rw [if_neg (by omega)]) (((((hF.bare.add hF 8 rfl).add hF 7 rfl).add hF 2 rfl).add hF 1 rfl).add hF 0 rfl) (hH.sub _ (sub_cons (sub_nil _) 900 rfl))
                  refine wp_cond_split (hF.tmp 61 rfl) (fun hc61 => ?_) (fun hc61 => ?_)
                  · have hk61_14 := hc61; try simp only [Bool.or_eq_true, Bool.and_eq_true, Bool.or_eq_false_iff, Bool.and_eq_false_iff, Bool.not_eq_true', Bool.not_eq_false', decide_eq_true_eq, decide_eq_false_iff_not, Bool.not_true, Bool.not_false] at hc61
                    refine wp_seq_k fun khK29 hK29 => ?_
                    refine wp_region_lit ?_
                    refine l_at hF rfl rfl rfl (x_move (hF.tmp 7 rfl)) ?_; clear hF; intro a hF
                    refine l_at hF rfl rfl rfl (x_sub (hF.tmp 62 rfl) rfl (show IntKind.i64.wrap _ = ((i2 - 1 : Nat) : Int) from by rw [w64 (by omega) (by omega)] <;> omega)) ?_; clear hF; intro a hF
                    refine l_at hF rfl rfl rfl (x_assign (hF.tmp 63 rfl)) ?_; clear hF; intro a hF
                    refine wpList_nil ?_
                    refine hK29 _ _ ?_
                    refine wp_block ?_
                    refine wp_loop_ghost (fun n_ a w => ∃ j4 : Nat, ∃ d4 : Array Int, n_ = 0 + j4 ∧ (j4 ≤ i2 - 1) ∧ (d4.size = d.size) ∧ (shiftDown ltInt j4 d4 = shiftDown ltInt (i2 - 1) (swp dk i2 (i2 - 1))) ∧ Fr 133 a [(0, v), (1, .int .i64 (la : Int)), (2, .int .i64 (lb : Int)), (7, .int .i64 (i2 : Int)), (8, .int .i64 (s : Int)), (9, .int .i64 (j4 : Int))] ∧ Hp (fun k => v.ownBlock = some k) w0 w [(900, .row RB 5 v d4.toList (fun _ => False))]) (0 + (i2 - 1)) ?_ ?_
                    · exact ⟨i2 - 1, (swp dk i2 (i2 - 1)), rfl, by omega, (by rw [Sx.swp_size]; exact hq0_3), rfl, ((((((hF.bare.add hF 9 rfl).add hF 8 rfl).add hF 7 rfl).add hF 2 rfl).add hF 1 rfl).add hF 0 rfl), hH.sub _ (sub_cons (sub_nil _) 900 rfl)⟩
                    · rintro _ a w ⟨j4, d4, rfl, hq4_0, hq4_1, hq4_2, hF, hH⟩
                      have hl_d4 : d4.toList.length = d.size := by simp only [Array.length_toList]; omega
                      refine wp_seq_k fun khK30 hK30 => ?_
                      refine wp_seq_k fun khK31 hK31 => ?_
                      refine wp_region_lit ?_
                      refine l_at hF rfl rfl rfl (x_move (hF.tmp 9 rfl)) ?_; clear hF; intro a hF
                      refine l_at hF rfl rfl rfl (x_geq (hF.tmp 64 rfl) rfl) ?_; clear hF; intro a hF
                      refine wpList_nil ?_
                      refine hK31 _ _ ?_
                      refine wp_cond_split (hF.tmp 65 rfl) (fun hc65 => ?_) (fun hc65 => ?_)
                      · have hk65_15 := hc65; try simp only [Bool.or_eq_true, Bool.and_eq_true, Bool.or_eq_false_iff, Bool.and_eq_false_iff, Bool.not_eq_true', Bool.not_eq_false', decide_eq_true_eq, decide_eq_false_iff_not, Bool.not_true, Bool.not_false] at hc65
                        refine wp_skip ?_
                        refine hK30 _ _ ?_
                        refine wp_seq_k fun khK32 hK32 => ?_
                        refine wp_block ?_
                        refine wp_seq_k fun khK33 hK33 => ?_
                        refine wp_seq_k fun khK34 hK34 => ?_
                        refine r_start [(900, .row RB 5 v d4.toList (fun _ => False))] (by kernel_rfl) hH fun hH => ?_
                        have hS : SL [(900, .row RB 5 v d4.toList (fun _ => False))] _ := SL.of hH (sub_cons (sub_nil _) 900 rfl)
                        refine r_take 0 hF rfl rfl rfl (by kernel_rfl) (by kernel_rfl) (by kernel_rfl) (fun _ _ _ h => h) rfl hS (fun w hS => x_move (hF.tmp 0 rfl)) rfl ?_; clear hF; intro a hF
                        refine r_take 1 hF rfl rfl rfl (by kernel_rfl) (by kernel_rfl) (by kernel_rfl) (fun _ _ _ h => h) rfl hS (fun w hS => x_move (hF.tmp 9 rfl)) rfl ?_; clear hF; intro a hF
                        refine r_take 2 hF rfl rfl rfl (by kernel_rfl) (by kernel_rfl) (by kernel_rfl) (fun _ _ _ h => h) rfl hS (fun w hS => x_iaddrV Try.underlying72 ty5 (hH.row 900 rfl) (hF.tmp 68 rfl) (hF.tmp 69 rfl) (by omega) (by omega) _) rfl ?_; clear hF; intro a hF
                        refine r_take 3 hF rfl rfl rfl (by kernel_rfl) (by kernel_rfl) (by kernel_rfl) (fun _ _ _ h => h) rfl hS (fun w hS => x_load1 ty5 (hF.tmp 70 rfl) ((Row.rdV (SL.row hS 900 rfl)).cellA (gi_some (xs := d4.toList) (i := (j4 : Int)) (by omega) (by omega)))) rfl ?_; clear hF; intro a hF
                        refine r_take 4 hF rfl rfl rfl (by kernel_rfl) (by kernel_rfl) (by kernel_rfl) (fun _ _ _ h => h) rfl hS (fun w hS => x_move (hF.tmp 0 rfl)) rfl ?_; clear hF; intro a hF
                        refine r_take 5 hF rfl rfl rfl (by kernel_rfl) (by kernel_rfl) (by kernel_rfl) (fun _ _ _ h => h) rfl hS (fun w hS => x_move (hF.tmp 9 rfl)) rfl ?_; clear hF; intro a hF
                        refine r_take 6 hF rfl rfl rfl (by kernel_rfl) (by kernel_rfl) (by kernel_rfl) (fun _ _ _ h => h) rfl hS (fun w hS => x_sub (hF.tmp 73 rfl) rfl (show IntKind.i64.wrap _ = ((j4 - 1 : Nat) : Int) from by rw [w64 (by omega) (by omega)] <;> omega)) rfl ?_; clear hF; intro a hF
                        refine r_take 7 hF rfl rfl rfl (by kernel_rfl) (by kernel_rfl) (by kernel_rfl) (fun _ _ _ h => h) rfl hS (fun w hS => x_iaddrV Try.underlying72 ty5 (hH.row 900 rfl) (hF.tmp 72 rfl) (hF.tmp 74 rfl) (by omega) (by omega) _) rfl ?_; clear hF; intro a hF
                        refine r_take 8 hF rfl rfl rfl (by kernel_rfl) (by kernel_rfl) (by kernel_rfl) (fun _ _ _ h => h) rfl hS (fun w hS => x_load1 ty5 (hF.tmp 75 rfl) ((Row.rdV (SL.row hS 900 rfl)).cellA (gi_some (xs := d4.toList) (i := ((j4 - 1 : Nat) : Int)) (by omega) (by omega)))) rfl ?_; clear hF; intro a hF
                        refine r_do 9 rfl (by kernel_rfl) rfl rfl ?_
                        refine w_call hF (x_enter Try.func51 (by kernel_rfl) rfl (by simp only [List.map_toArray, List.map_cons, List.map_nil, hF.tmp 71 rfl, hF.tmp 76 rfl] <;> rfl)) (less_calls _ _ _) rfl rfl ?_
                        rintro _ w ⟨rfl, hm_⟩; refine ⟨_, rfl, ?_⟩; clear hF; intro a hF; have hH := hH.same hm_
                        clear hS; have hS : SL _ _ := SL.of hH (sub_cons (sub_nil _) 900 rfl); refine ⟨hS, ?_⟩
                        refine r_take 10 hF rfl rfl rfl (by kernel_rfl) (by kernel_rfl) (by kernel_rfl) (fun _ _ _ h => h) rfl hS (fun w hS => x_not (hF.tmp 77 rfl)) rfl ?_; clear hF; intro a hF
                        refine r_end (by kernel_rfl) ?_; clear hS
                        refine hK34 _ _ ?_
                        refine wp_cond_split (hF.tmp 78 rfl) (fun hc78 => ?_) (fun hc78 => ?_)
                        · have hk78_16 := hc78; try simp only [Bool.or_eq_true, Bool.and_eq_true, Bool.or_eq_false_iff, Bool.and_eq_false_iff, Bool.not_eq_true', Bool.not_eq_false', decide_eq_true_eq, decide_eq_false_iff_not, Bool.not_true, Bool.not_false] at hc78
                          have h78 : (!ltInt d4[j4]! d4[j4 - 1]!) = true := by rw [← nlt_g]; simpa using hc78
                          refine wp_exit ?_
                          exact hJ61 _ _ d4 hq4_1 (by rw [if_pos (by omega), ← hq4_2]; first | exact (sdn_off1 (by omega)).symm | exact (sdn_off2 h78).symm) (((((hF.bare.add hF 8 rfl).add hF 7 rfl).add hF 2 rfl).add hF 1 rfl).add hF 0 rfl) (hH.sub _ (sub_cons (sub_nil _) 900 rfl))
                        · have hk78_17 := hc78; try simp only [Bool.or_eq_true, Bool.and_eq_true, Bool.or_eq_false_iff, Bool.and_eq_false_iff, Bool.not_eq_true', Bool.not_eq_false', decide_eq_true_eq, decide_eq_false_iff_not, Bool.not_true, Bool.not_false] at hc78
                          have h78 : ¬ (!ltInt d4[j4]! d4[j4 - 1]!) = true := by rw [← nlt_g]; simpa using hc78
                          refine wp_skip ?_
                          refine hK33 _ _ ?_
                          refine wp_norm_k fun khK35 hK35 => ?_
                          have hJr17 : ∀ a w, Fr 133 a [(0, v), (1, .int .i64 (la : Int)), (2, .int .i64 (lb : Int)), (7, .int .i64 (i2 : Int)), (8, .int .i64 (s : Int)), (9, .int .i64 (j4 : Int))] → Hp (fun k => v.ownBlock = some k) w0 w [(900, .row RB 5 v (swp d4 j4 (j4 - 1)).toList (fun _ => False))] → khK35 a w := by
                            intro a w  hF hH
                            refine hK35 a w ?_
                            refine hK32 _ _ ?_
                            refine wp_region_lit ?_
                            refine l_at hF rfl rfl rfl (x_move (hF.tmp 9 rfl)) ?_; clear hF; intro a hF
                            refine l_at hF rfl rfl rfl (x_sub (hF.tmp 66 rfl) rfl (show IntKind.i64.wrap _ = ((j4 - 1 : Nat) : Int) from by rw [w64 (by omega) (by omega)] <;> omega)) ?_; clear hF; intro a hF
                            refine l_at hF rfl rfl rfl (x_assign (hF.tmp 67 rfl)) ?_; clear hF; intro a hF
                            refine wpList_nil ?_
                            exact ⟨_, by omega, ⟨j4 - 1, (swp d4 j4 (j4 - 1)), rfl, by omega, (by rw [Sx.swp_size]; exact hq4_1), (by rw [sdn_on (by omega) h78]; exact hq4_2), ((((((hF.bare.add hF 9 rfl).add hF 8 rfl).add hF 7 rfl).add hF 2 rfl).add hF 1 rfl).add hF 0 rfl), hH.sub _ (sub_cons (sub_nil _) 900 rfl)⟩⟩
                          refine r_start [] (by kernel_rfl) hH fun hH => ?_
                          have hS : SL [] _ := SL.of hH (sub_nil _)
                          refine r_take 0 hF rfl rfl rfl (by kernel_rfl) (by kernel_rfl) (by kernel_rfl) (fun _ _ _ h => h) rfl hS (fun w hS => x_move (hF.tmp 0 rfl)) rfl ?_; clear hF; intro a hF
                          refine r_take 1 hF rfl rfl rfl (by kernel_rfl) (by kernel_rfl) (by kernel_rfl) (fun _ _ _ h => h) rfl hS (fun w hS => x_move (hF.tmp 9 rfl)) rfl ?_; clear hF; intro a hF
                          refine r_take 2 hF rfl rfl rfl (by kernel_rfl) (by kernel_rfl) (by kernel_rfl) (fun _ _ _ h => h) rfl hS (fun w hS => x_move (hF.tmp 0 rfl)) rfl ?_; clear hF; intro a hF
                          refine r_take 3 hF rfl rfl rfl (by kernel_rfl) (by kernel_rfl) (by kernel_rfl) (fun _ _ _ h => h) rfl hS (fun w hS => x_move (hF.tmp 9 rfl)) rfl ?_; clear hF; intro a hF
                          refine r_take 4 hF rfl rfl rfl (by kernel_rfl) (by kernel_rfl) (by kernel_rfl) (fun _ _ _ h => h) rfl hS (fun w hS => x_sub (hF.tmp 82 rfl) rfl (show IntKind.i64.wrap _ = ((j4 - 1 : Nat) : Int) from by rw [w64 (by omega) (by omega)] <;> omega)) rfl ?_; clear hF; intro a hF
                          refine r_take 5 hF rfl rfl rfl (by kernel_rfl) (by kernel_rfl) (by kernel_rfl) (fun _ _ _ h => h) rfl hS (fun w hS => x_move (hF.tmp 0 rfl)) rfl ?_; clear hF; intro a hF
                          refine r_take 6 hF rfl rfl rfl (by kernel_rfl) (by kernel_rfl) (by kernel_rfl) (fun _ _ _ h => h) rfl hS (fun w hS => x_move (hF.tmp 9 rfl)) rfl ?_; clear hF; intro a hF
                          refine r_take 7 hF rfl rfl rfl (by kernel_rfl) (by kernel_rfl) (by kernel_rfl) (fun _ _ _ h => h) rfl hS (fun w hS => x_sub (hF.tmp 85 rfl) rfl (show IntKind.i64.wrap _ = ((j4 - 1 : Nat) : Int) from by rw [w64 (by omega) (by omega)] <;> omega)) rfl ?_; clear hF; intro a hF
                          refine r_take 8 hF rfl rfl rfl (by kernel_rfl) (by kernel_rfl) (by kernel_rfl) (fun _ _ _ h => h) rfl hS (fun w hS => x_iaddrV Try.underlying72 ty5 (hH.row 900 rfl) (hF.tmp 84 rfl) (hF.tmp 86 rfl) (by omega) (by omega) _) rfl ?_; clear hF; intro a hF
                          refine r_take 10 hF rfl rfl rfl (by kernel_rfl) (by kernel_rfl) (by kernel_rfl) (fun _ _ _ h => h) rfl hS (fun w hS => x_move (hF.tmp 0 rfl)) rfl ?_; clear hF; intro a hF
                          refine r_take 11 hF rfl rfl rfl (by kernel_rfl) (by kernel_rfl) (by kernel_rfl) (fun _ _ _ h => h) rfl hS (fun w hS => x_move (hF.tmp 9 rfl)) rfl ?_; clear hF; intro a hF
                          refine r_take 12 hF rfl rfl rfl (by kernel_rfl) (by kernel_rfl) (by kernel_rfl) (fun _ _ _ h => h) rfl hS (fun w hS => x_iaddrV Try.underlying72 ty5 (hH.row 900 rfl) (hF.tmp 89 rfl) (hF.tmp 90 rfl) (by omega) (by omega) _) rfl ?_; clear hF; intro a hF
                          refine r_do2 9 13 rfl rfl (by kernel_rfl) rfl rfl rfl rfl ?_ ?_
                          ·
                            refine w_at hF (x_load1 ty5 (hF.tmp 87 rfl) ((Row.rdV (hH.row 900 rfl)).cellA (gi_some (xs := d4.toList) (i := ((j4 - 1 : Nat) : Int)) (by omega) (by omega)))) rfl rfl ?_
                            clear hF; intro a hF
                            clear hS; have hS : SL _ _ := SL.of hH (sub_nil _); refine ⟨hS, ?_⟩
                            refine r_do 13 rfl (by kernel_rfl) rfl rfl ?_
                            refine w_at hF (x_load1 ty5 (hF.tmp 91 rfl) ((Row.rdV (hH.row 900 rfl)).cellA (gi_some (xs := d4.toList) (i := (j4 : Int)) (by omega) (by omega)))) rfl rfl ?_
                            clear hF; intro a hF
                            clear hS; have hS : SL _ _ := SL.of hH (sub_nil _); refine ⟨hS, ?_⟩
                            refine r_take 14 hF rfl rfl rfl (by kernel_rfl) (by kernel_rfl) (by kernel_rfl) (fun _ _ _ h => h) rfl hS (fun w hS => x_iaddrV Try.underlying72 ty5 (hH.row 900 rfl) (hF.tmp 79 rfl) (hF.tmp 80 rfl) (by omega) (by omega) _) rfl ?_; clear hF; intro a hF
                            refine r_do 15 rfl (by kernel_rfl) rfl rfl ?_
                            refine w_setV (xs := d4.toList) 900 j4 (gi d4.toList (((j4 - 1) : Nat) : Int)) hH ty5 rfl (by first | omega | (simp only [List.length_set]; omega)) (hF.tmp 93 rfl) (hF.tmp 88 rfl) ?_
                            clear hH; intro w hH
                            clear hS; have hS : SL _ _ := SL.of hH (sub_nil _); refine ⟨hS, ?_⟩
                            refine r_take 16 hF rfl rfl rfl (by kernel_rfl) (by kernel_rfl) (by kernel_rfl) (fun _ _ _ h => h) rfl hS (fun w hS => x_iaddrV Try.underlying72 ty5 (hH.row 900 rfl) (hF.tmp 81 rfl) (hF.tmp 83 rfl) (by omega) (by first | omega | (simp only [List.length_set]; omega)) _) rfl ?_; clear hF; intro a hF
                            refine r_do 17 rfl (by kernel_rfl) rfl rfl ?_
                            refine w_setV (xs := (d4.toList.set j4 (gi d4.toList (((j4 - 1) : Nat) : Int)))) 900 (j4 - 1) (gi d4.toList ((j4 : Nat) : Int)) hH ty5 rfl (by first | omega | (simp only [List.length_set]; omega)) (hF.tmp 94 rfl) (hF.tmp 92 rfl) ?_
                            clear hH; intro w hH
                            clear hS; have hS : SL _ _ := SL.of hH (sub_nil _); refine ⟨hS, ?_⟩
                            have hH := hH.relab 900 (Y := .row RB 5 v (swp d4 j4 (j4 - 1)).toList (fun _ => False)) rfl (by rw [swp_list])
                            refine r_end (by kernel_rfl) ?_; clear hS
                            exact hJr17 _ _  ((((((hF.bare.add hF 9 rfl).add hF 8 rfl).add hF 7 rfl).add hF 2 rfl).add hF 1 rfl).add hF 0 rfl) (hH.sub _ (sub_cons (sub_nil _) 900 rfl))
                          ·
                            refine w_at hF (x_load1 ty5 (hF.tmp 91 rfl) ((Row.rdV (hH.row 900 rfl)).cellA (gi_some (xs := d4.toList) (i := (j4 : Int)) (by omega) (by omega)))) rfl rfl ?_
                            clear hF; intro a hF
                            clear hS; have hS : SL _ _ := SL.of hH (sub_nil _); refine ⟨hS, ?_⟩
                            refine r_do 9 rfl (by kernel_rfl) rfl rfl ?_
                            refine w_at hF (x_load1 ty5 (hF.tmp 87 rfl) ((Row.rdV (hH.row 900 rfl)).cellA (gi_some (xs := d4.toList) (i := ((j4 - 1 : Nat) : Int)) (by omega) (by omega)))) rfl rfl ?_
                            clear hF; intro a hF
                            clear hS; have hS : SL _ _ := SL.of hH (sub_nil _); refine ⟨hS, ?_⟩
                            refine r_take 14 hF rfl rfl rfl (by kernel_rfl) (by kernel_rfl) (by kernel_rfl) (fun _ _ _ h => h) rfl hS (fun w hS => x_iaddrV Try.underlying72 ty5 (hH.row 900 rfl) (hF.tmp 79 rfl) (hF.tmp 80 rfl) (by omega) (by omega) _) rfl ?_; clear hF; intro a hF
                            refine r_do 15 rfl (by kernel_rfl) rfl rfl ?_
                            refine w_setV (xs := d4.toList) 900 j4 (gi d4.toList (((j4 - 1) : Nat) : Int)) hH ty5 rfl (by first | omega | (simp only [List.length_set]; omega)) (hF.tmp 93 rfl) (hF.tmp 88 rfl) ?_
                            clear hH; intro w hH
                            clear hS; have hS : SL _ _ := SL.of hH (sub_nil _); refine ⟨hS, ?_⟩
                            refine r_take 16 hF rfl rfl rfl (by kernel_rfl) (by kernel_rfl) (by kernel_rfl) (fun _ _ _ h => h) rfl hS (fun w hS => x_iaddrV Try.underlying72 ty5 (hH.row 900 rfl) (hF.tmp 81 rfl) (hF.tmp 83 rfl) (by omega) (by first | omega | (simp only [List.length_set]; omega)) _) rfl ?_; clear hF; intro a hF
                            refine r_do 17 rfl (by kernel_rfl) rfl rfl ?_
                            refine w_setV (xs := (d4.toList.set j4 (gi d4.toList (((j4 - 1) : Nat) : Int)))) 900 (j4 - 1) (gi d4.toList ((j4 : Nat) : Int)) hH ty5 rfl (by first | omega | (simp only [List.length_set]; omega)) (hF.tmp 94 rfl) (hF.tmp 92 rfl) ?_
                            clear hH; intro w hH
                            clear hS; have hS : SL _ _ := SL.of hH (sub_nil _); refine ⟨hS, ?_⟩
                            have hH := hH.relab 900 (Y := .row RB 5 v (swp d4 j4 (j4 - 1)).toList (fun _ => False)) rfl (by rw [swp_list])
                            refine r_end (by kernel_rfl) ?_; clear hS
                            exact hJr17 _ _  ((((((hF.bare.add hF 9 rfl).add hF 8 rfl).add hF 7 rfl).add hF 2 rfl).add hF 1 rfl).add hF 0 rfl) (hH.sub _ (sub_cons (sub_nil _) 900 rfl))
                      · have hk65_18 := hc65; try simp only [Bool.or_eq_true, Bool.and_eq_true, Bool.or_eq_false_iff, Bool.and_eq_false_iff, Bool.not_eq_true', Bool.not_eq_false', decide_eq_true_eq, decide_eq_false_iff_not, Bool.not_true, Bool.not_false] at hc65
                        refine wp_exit ?_
                        exact hJ61 _ _ d4 hq4_1 (by rw [if_pos (by omega), ← hq4_2]; first | exact (sdn_off1 (by omega)).symm | exact (sdn_off2 h78).symm) (((((hF.bare.add hF 8 rfl).add hF 7 rfl).add hF 2 rfl).add hF 1 rfl).add hF 0 rfl) (hH.sub _ (sub_cons (sub_nil _) 900 rfl))
                  · have hk61_19 := hc61; try simp only [Bool.or_eq_true, Bool.and_eq_true, Bool.or_eq_false_iff, Bool.and_eq_false_iff, Bool.not_eq_true', Bool.not_eq_false', decide_eq_true_eq, decide_eq_false_iff_not, Bool.not_true, Bool.not_false] at hc61
                    refine wp_skip ?_
                    exact hJ61 _ _ (swp dk i2 (i2 - 1)) (by rw [Sx.swp_size]; exact hq0_3) (by rw [if_neg (by omega)]) (((((hF.bare.add hF 8 rfl).add hF 7 rfl).add hF 2 rfl).add hF 1 rfl).add hF 0 rfl) (hH.sub _ (sub_cons (sub_nil _) 900 rfl))
                refine r_start [] (by kernel_rfl) hH fun hH => ?_
                have hS : SL [] _ := SL.of hH (sub_nil _)
                refine r_take 0 hF rfl rfl rfl (by kernel_rfl) (by kernel_rfl) (by kernel_rfl) (fun _ _ _ h => h) rfl hS (fun w hS => x_move (hF.tmp 0 rfl)) rfl ?_; clear hF; intro a hF
                refine r_take 1 hF rfl rfl rfl (by kernel_rfl) (by kernel_rfl) (by kernel_rfl) (fun _ _ _ h => h) rfl hS (fun w hS => x_move (hF.tmp 7 rfl)) rfl ?_; clear hF; intro a hF
                refine r_take 2 hF rfl rfl rfl (by kernel_rfl) (by kernel_rfl) (by kernel_rfl) (fun _ _ _ h => h) rfl hS (fun w hS => x_move (hF.tmp 0 rfl)) rfl ?_; clear hF; intro a hF
                refine r_take 3 hF rfl rfl rfl (by kernel_rfl) (by kernel_rfl) (by kernel_rfl) (fun _ _ _ h => h) rfl hS (fun w hS => x_move (hF.tmp 7 rfl)) rfl ?_; clear hF; intro a hF
                refine r_take 4 hF rfl rfl rfl (by kernel_rfl) (by kernel_rfl) (by kernel_rfl) (fun _ _ _ h => h) rfl hS (fun w hS => x_sub (hF.tmp 45 rfl) rfl (show IntKind.i64.wrap _ = ((i2 - 1 : Nat) : Int) from by rw [w64 (by omega) (by omega)] <;> omega)) rfl ?_; clear hF; intro a hF
                refine r_take 5 hF rfl rfl rfl (by kernel_rfl) (by kernel_rfl) (by kernel_rfl) (fun _ _ _ h => h) rfl hS (fun w hS => x_move (hF.tmp 0 rfl)) rfl ?_; clear hF; intro a hF
                refine r_take 6 hF rfl rfl rfl (by kernel_rfl) (by kernel_rfl) (by kernel_rfl) (fun _ _ _ h => h) rfl hS (fun w hS => x_move (hF.tmp 7 rfl)) rfl ?_; clear hF; intro a hF
                refine r_take 7 hF rfl rfl rfl (by kernel_rfl) (by kernel_rfl) (by kernel_rfl) (fun _ _ _ h => h) rfl hS (fun w hS => x_sub (hF.tmp 48 rfl) rfl (show IntKind.i64.wrap _ = ((i2 - 1 : Nat) : Int) from by rw [w64 (by omega) (by omega)] <;> omega)) rfl ?_; clear hF; intro a hF
                refine r_take 8 hF rfl rfl rfl (by kernel_rfl) (by kernel_rfl) (by kernel_rfl) (fun _ _ _ h => h) rfl hS (fun w hS => x_iaddrV Try.underlying72 ty5 (hH.row 900 rfl) (hF.tmp 47 rfl) (hF.tmp 49 rfl) (by omega) (by omega) _) rfl ?_; clear hF; intro a hF
                refine r_take 10 hF rfl rfl rfl (by kernel_rfl) (by kernel_rfl) (by kernel_rfl) (fun _ _ _ h => h) rfl hS (fun w hS => x_move (hF.tmp 0 rfl)) rfl ?_; clear hF; intro a hF
                refine r_take 11 hF rfl rfl rfl (by kernel_rfl) (by kernel_rfl) (by kernel_rfl) (fun _ _ _ h => h) rfl hS (fun w hS => x_move (hF.tmp 7 rfl)) rfl ?_; clear hF; intro a hF
                refine r_take 12 hF rfl rfl rfl (by kernel_rfl) (by kernel_rfl) (by kernel_rfl) (fun _ _ _ h => h) rfl hS (fun w hS => x_iaddrV Try.underlying72 ty5 (hH.row 900 rfl) (hF.tmp 52 rfl) (hF.tmp 53 rfl) (by omega) (by omega) _) rfl ?_; clear hF; intro a hF
                refine r_do2 9 13 rfl rfl (by kernel_rfl) rfl rfl rfl rfl ?_ ?_
                ·
                  refine w_at hF (x_load1 ty5 (hF.tmp 50 rfl) ((Row.rdV (hH.row 900 rfl)).cellA (gi_some (xs := dk.toList) (i := ((i2 - 1 : Nat) : Int)) (by omega) (by omega)))) rfl rfl ?_
                  clear hF; intro a hF
                  clear hS; have hS : SL _ _ := SL.of hH (sub_nil _); refine ⟨hS, ?_⟩
                  refine r_do 13 rfl (by kernel_rfl) rfl rfl ?_
                  refine w_at hF (x_load1 ty5 (hF.tmp 54 rfl) ((Row.rdV (hH.row 900 rfl)).cellA (gi_some (xs := dk.toList) (i := (i2 : Int)) (by omega) (by omega)))) rfl rfl ?_
                  clear hF; intro a hF
                  clear hS; have hS : SL _ _ := SL.of hH (sub_nil _); refine ⟨hS, ?_⟩
                  refine r_take 14 hF rfl rfl rfl (by kernel_rfl) (by kernel_rfl) (by kernel_rfl) (fun _ _ _ h => h) rfl hS (fun w hS => x_iaddrV Try.underlying72 ty5 (hH.row 900 rfl) (hF.tmp 42 rfl) (hF.tmp 43 rfl) (by omega) (by omega) _) rfl ?_; clear hF; intro a hF
                  refine r_do 15 rfl (by kernel_rfl) rfl rfl ?_
                  refine w_setV (xs := dk.toList) 900 i2 (gi dk.toList (((i2 - 1) : Nat) : Int)) hH ty5 rfl (by first | omega | (simp only [List.length_set]; omega)) (hF.tmp 56 rfl) (hF.tmp 51 rfl) ?_
                  clear hH; intro w hH
                  clear hS; have hS : SL _ _ := SL.of hH (sub_nil _); refine ⟨hS, ?_⟩
                  refine r_take 16 hF rfl rfl rfl (by kernel_rfl) (by kernel_rfl) (by kernel_rfl) (fun _ _ _ h => h) rfl hS (fun w hS => x_iaddrV Try.underlying72 ty5 (hH.row 900 rfl) (hF.tmp 44 rfl) (hF.tmp 46 rfl) (by omega) (by first | omega | (simp only [List.length_set]; omega)) _) rfl ?_; clear hF; intro a hF
                  refine r_do 17 rfl (by kernel_rfl) rfl rfl ?_
                  refine w_setV (xs := (dk.toList.set i2 (gi dk.toList (((i2 - 1) : Nat) : Int)))) 900 (i2 - 1) (gi dk.toList ((i2 : Nat) : Int)) hH ty5 rfl (by first | omega | (simp only [List.length_set]; omega)) (hF.tmp 57 rfl) (hF.tmp 55 rfl) ?_
                  clear hH; intro w hH
                  clear hS; have hS : SL _ _ := SL.of hH (sub_nil _); refine ⟨hS, ?_⟩
                  have hH := hH.relab 900 (Y := .row RB 5 v (swp dk i2 (i2 - 1)).toList (fun _ => False)) rfl (by rw [swp_list])
                  refine r_end (by kernel_rfl) ?_; clear hS
                  exact hJr11 _ _  (((((hF.bare.add hF 8 rfl).add hF 7 rfl).add hF 2 rfl).add hF 1 rfl).add hF 0 rfl) (hH.sub _ (sub_cons (sub_nil _) 900 rfl))
                ·
                  refine w_at hF (x_load1 ty5 (hF.tmp 54 rfl) ((Row.rdV (hH.row 900 rfl)).cellA (gi_some (xs := dk.toList) (i := (i2 : Int)) (by omega) (by omega)))) rfl rfl ?_
                  clear hF; intro a hF
                  clear hS; have hS : SL _ _ := SL.of hH (sub_nil _); refine ⟨hS, ?_⟩
                  refine r_do 9 rfl (by kernel_rfl) rfl rfl ?_
                  refine w_at hF (x_load1 ty5 (hF.tmp 50 rfl) ((Row.rdV (hH.row 900 rfl)).cellA (gi_some (xs := dk.toList) (i := ((i2 - 1 : Nat) : Int)) (by omega) (by omega)))) rfl rfl ?_
                  clear hF; intro a hF
                  clear hS; have hS : SL _ _ := SL.of hH (sub_nil _); refine ⟨hS, ?_⟩
                  refine r_take 14 hF rfl rfl rfl (by kernel_rfl) (by kernel_rfl) (by kernel_rfl) (fun _ _ _ h => h) rfl hS (fun w hS => x_iaddrV Try.underlying72 ty5 (hH.row 900 rfl) (hF.tmp 42 rfl) (hF.tmp 43 rfl) (by omega) (by omega) _) rfl ?_; clear hF; intro a hF
                  refine r_do 15 rfl (by kernel_rfl) rfl rfl ?_
                  refine w_setV (xs := dk.toList) 900 i2 (gi dk.toList (((i2 - 1) : Nat) : Int)) hH ty5 rfl (by first | omega | (simp only [List.length_set]; omega)) (hF.tmp 56 rfl) (hF.tmp 51 rfl) ?_
                  clear hH; intro w hH
                  clear hS; have hS : SL _ _ := SL.of hH (sub_nil _); refine ⟨hS, ?_⟩
                  refine r_take 16 hF rfl rfl rfl (by kernel_rfl) (by kernel_rfl) (by kernel_rfl) (fun _ _ _ h => h) rfl hS (fun w hS => x_iaddrV Try.underlying72 ty5 (hH.row 900 rfl) (hF.tmp 44 rfl) (hF.tmp 46 rfl) (by omega) (by first | omega | (simp only [List.length_set]; omega)) _) rfl ?_; clear hF; intro a hF
                  refine r_do 17 rfl (by kernel_rfl) rfl rfl ?_
                  refine w_setV (xs := (dk.toList.set i2 (gi dk.toList (((i2 - 1) : Nat) : Int)))) 900 (i2 - 1) (gi dk.toList ((i2 : Nat) : Int)) hH ty5 rfl (by first | omega | (simp only [List.length_set]; omega)) (hF.tmp 57 rfl) (hF.tmp 55 rfl) ?_
                  clear hH; intro w hH
                  clear hS; have hS : SL _ _ := SL.of hH (sub_nil _); refine ⟨hS, ?_⟩
                  have hH := hH.relab 900 (Y := .row RB 5 v (swp dk i2 (i2 - 1)).toList (fun _ => False)) rfl (by rw [swp_list])
                  refine r_end (by kernel_rfl) ?_; clear hS
                  exact hJr11 _ _  (((((hF.bare.add hF 8 rfl).add hF 7 rfl).add hF 2 rfl).add hF 1 rfl).add hF 0 rfl) (hH.sub _ (sub_cons (sub_nil _) 900 rfl))
        refine r_start [(900, .row RB 5 v dk.toList (fun _ => False))] (by kernel_rfl) hH fun hH => ?_
        have hS : SL [(900, .row RB 5 v dk.toList (fun _ => False))] _ := SL.of hH (sub_cons (sub_nil _) 900 rfl)
        refine r_take 0 hF rfl rfl rfl (by kernel_rfl) (by kernel_rfl) (by kernel_rfl) (fun _ _ _ h => h) rfl hS (fun w hS => x_move (hF.tmp 7 rfl)) rfl ?_; clear hF; intro a hF
        refine r_take 1 hF rfl rfl rfl (by kernel_rfl) (by kernel_rfl) (by kernel_rfl) (fun _ _ _ h => h) rfl hS (fun w hS => x_move (hF.tmp 2 rfl)) rfl ?_; clear hF; intro a hF
        refine r_take 2 hF rfl rfl rfl (by kernel_rfl) (by kernel_rfl) (by kernel_rfl) (fun _ _ _ h => h) rfl hS (fun w hS => x_lss (hF.tmp 17 rfl) (hF.tmp 18 rfl)) rfl ?_; clear hF; intro a hF
        refine r_take 3 hF rfl rfl rfl (by kernel_rfl) (by kernel_rfl) (by kernel_rfl) (fun _ _ _ h => h) rfl hS (fun w hS => x_move (hF.tmp 19 rfl)) rfl ?_; clear hF; intro a hF
        refine split_bool hF 20 rfl (fun hb20 => ?_) (fun hb20 => ?_)
        · have hc20 := hb20; try simp only [Bool.or_eq_true, Bool.and_eq_true, Bool.or_eq_false_iff, Bool.and_eq_false_iff, Bool.not_eq_true', Bool.not_eq_false', decide_eq_true_eq, decide_eq_false_iff_not, Bool.not_true, Bool.not_false] at hc20
          refine r_take 4 hF rfl rfl rfl (by kernel_rfl) (by kernel_rfl) (by kernel_rfl) (fun _ _ _ h => h) ((wanted_of hF rfl rfl rfl rfl).trans (by rw [hb20]; rfl)) hS (fun w hS => x_move (hF.tmp 0 rfl)) rfl ?_; clear hF; intro a hF
          refine r_take 5 hF rfl rfl rfl (by kernel_rfl) (by kernel_rfl) (by kernel_rfl) (fun _ _ _ h => h) ((wanted_of hF rfl rfl rfl rfl).trans (by rw [hb20]; rfl)) hS (fun w hS => x_move (hF.tmp 7 rfl)) rfl ?_; clear hF; intro a hF
          refine r_take 6 hF rfl rfl rfl (by kernel_rfl) (by kernel_rfl) (by kernel_rfl) (fun _ _ _ h => h) ((wanted_of hF rfl rfl rfl rfl).trans (by rw [hb20]; rfl)) hS (fun w hS => x_iaddrV Try.underlying72 ty5 (hH.row 900 rfl) (hF.tmp 21 rfl) (hF.tmp 22 rfl) (by omega) (by omega) _) rfl ?_; clear hF; intro a hF
          refine r_take 7 hF rfl rfl rfl (by kernel_rfl) (by kernel_rfl) (by kernel_rfl) (fun _ _ _ h => h) ((wanted_of hF rfl rfl rfl rfl).trans (by rw [hb20]; rfl)) hS (fun w hS => x_load1 ty5 (hF.tmp 23 rfl) ((Row.rdV (SL.row hS 900 rfl)).cellA (gi_some (xs := dk.toList) (i := (i2 : Int)) (by omega) (by omega)))) rfl ?_; clear hF; intro a hF
          refine r_take 8 hF rfl rfl rfl (by kernel_rfl) (by kernel_rfl) (by kernel_rfl) (fun _ _ _ h => h) ((wanted_of hF rfl rfl rfl rfl).trans (by rw [hb20]; rfl)) hS (fun w hS => x_move (hF.tmp 0 rfl)) rfl ?_; clear hF; intro a hF
          refine r_take 9 hF rfl rfl rfl (by kernel_rfl) (by kernel_rfl) (by kernel_rfl) (fun _ _ _ h => h) ((wanted_of hF rfl rfl rfl rfl).trans (by rw [hb20]; rfl)) hS (fun w hS => x_move (hF.tmp 7 rfl)) rfl ?_; clear hF; intro a hF
          refine r_take 10 hF rfl rfl rfl (by kernel_rfl) (by kernel_rfl) (by kernel_rfl) (fun _ _ _ h => h) ((wanted_of hF rfl rfl rfl rfl).trans (by rw [hb20]; rfl)) hS (fun w hS => x_sub (hF.tmp 26 rfl) rfl (show IntKind.i64.wrap _ = ((i2 - 1 : Nat) : Int) from by rw [w64 (by omega) (by omega)] <;> omega)) rfl ?_; clear hF; intro a hF
          refine r_take 11 hF rfl rfl rfl (by kernel_rfl) (by kernel_rfl) (by kernel_rfl) (fun _ _ _ h => h) ((wanted_of hF rfl rfl rfl rfl).trans (by rw [hb20]; rfl)) hS (fun w hS => x_iaddrV Try.underlying72 ty5 (hH.row 900 rfl) (hF.tmp 25 rfl) (hF.tmp 27 rfl) (by omega) (by omega) _) rfl ?_; clear hF; intro a hF
          refine r_take 12 hF rfl rfl rfl (by kernel_rfl) (by kernel_rfl) (by kernel_rfl) (fun _ _ _ h => h) ((wanted_of hF rfl rfl rfl rfl).trans (by rw [hb20]; rfl)) hS (fun w hS => x_load1 ty5 (hF.tmp 28 rfl) ((Row.rdV (SL.row hS 900 rfl)).cellA (gi_some (xs := dk.toList) (i := ((i2 - 1 : Nat) : Int)) (by omega) (by omega)))) rfl ?_; clear hF; intro a hF
          refine r_do 13 rfl (by kernel_rfl) ((wanted_of hF rfl rfl rfl rfl).trans (by rw [hb20]; rfl)) rfl ?_
          refine w_call hF (x_enter Try.func51 (by kernel_rfl) rfl (by simp only [List.map_toArray, List.map_cons, List.map_nil, hF.tmp 24 rfl, hF.tmp 29 rfl] <;> rfl)) (less_calls _ _ _) rfl rfl ?_
          rintro _ w ⟨rfl, hm_⟩; refine ⟨_, rfl, ?_⟩; clear hF; intro a hF; have hH := hH.same hm_
          clear hS; have hS : SL _ _ := SL.of hH (sub_cons (sub_nil _) 900 rfl); refine ⟨hS, ?_⟩
          refine r_take 14 hF rfl rfl rfl (by kernel_rfl) (by kernel_rfl) (by kernel_rfl) (fun _ _ _ h => h) ((wanted_of hF rfl rfl rfl rfl).trans (by rw [hb20]; rfl)) hS (fun w hS => x_not (hF.tmp 30 rfl)) rfl ?_; clear hF; intro a hF
          refine r_take 15 hF rfl rfl rfl (by kernel_rfl) (by kernel_rfl) (by kernel_rfl) (fun _ _ _ h => h) rfl hS (fun w hS => x_pickT (hF.tmp 20 rfl) hb20 (hF.tmp 31 rfl)) rfl ?_; clear hF; intro a hF
          refine r_end (by kernel_rfl) ?_; clear hS
          exact hJr5 _ _ (!(decide ((gi dk.toList (i2 : Int)) < (gi dk.toList ((i2 - 1 : Nat) : Int))))) (by first | exact sc_f (by omega) | exact sc_t (by omega) (lt_g _ _ _) | exact sc_t (by omega) (nlt_g _ _ _)) ((((((hF.bare.add hF 32 rfl).add hF 8 rfl).add hF 7 rfl).add hF 2 rfl).add hF 1 rfl).add hF 0 rfl) (hH.sub _ (sub_cons (sub_nil _) 900 rfl))
        · have hc20 := hb20; try simp only [Bool.or_eq_true, Bool.and_eq_true, Bool.or_eq_false_iff, Bool.and_eq_false_iff, Bool.not_eq_true', Bool.not_eq_false', decide_eq_true_eq, decide_eq_false_iff_not, Bool.not_true, Bool.not_false] at hc20
          refine r_off 4 hF rfl rfl rfl (by kernel_rfl) (by kernel_rfl) (by kernel_rfl) (fun _ _ _ h => h) ((wanted_of hF rfl rfl rfl rfl).trans (by rw [hb20]; rfl)) hS rfl ?_; clear hF; intro a hF
          refine r_off 5 hF rfl rfl rfl (by kernel_rfl) (by kernel_rfl) (by kernel_rfl) (fun _ _ _ h => h) ((wanted_of hF rfl rfl rfl rfl).trans (by rw [hb20]; rfl)) hS rfl ?_; clear hF; intro a hF
          refine r_off 6 hF rfl rfl rfl (by kernel_rfl) (by kernel_rfl) (by kernel_rfl) (fun _ _ _ h => h) ((wanted_of hF rfl rfl rfl rfl).trans (by rw [hb20]; rfl)) hS rfl ?_; clear hF; intro a hF
          refine r_off 7 hF rfl rfl rfl (by kernel_rfl) (by kernel_rfl) (by kernel_rfl) (fun _ _ _ h => h) ((wanted_of hF rfl rfl rfl rfl).trans (by rw [hb20]; rfl)) hS rfl ?_; clear hF; intro a hF
          refine r_off 8 hF rfl rfl rfl (by kernel_rfl) (by kernel_rfl) (by kernel_rfl) (fun _ _ _ h => h) ((wanted_of hF rfl rfl rfl rfl).trans (by rw [hb20]; rfl)) hS rfl ?_; clear hF; intro a hF
          refine r_off 9 hF rfl rfl rfl (by kernel_rfl) (by kernel_rfl) (by kernel_rfl) (fun _ _ _ h => h) ((wanted_of hF rfl rfl rfl rfl).trans (by rw [hb20]; rfl)) hS rfl ?_; clear hF; intro a hF
          refine r_off 10 hF rfl rfl rfl (by kernel_rfl) (by kernel_rfl) (by kernel_rfl) (fun _ _ _ h => h) ((wanted_of hF rfl rfl rfl rfl).trans (by rw [hb20]; rfl)) hS rfl ?_; clear hF; intro a hF
          refine r_off 11 hF rfl rfl rfl (by kernel_rfl) (by kernel_rfl) (by kernel_rfl) (fun _ _ _ h => h) ((wanted_of hF rfl rfl rfl rfl).trans (by rw [hb20]; rfl)) hS rfl ?_; clear hF; intro a hF
          refine r_off 12 hF rfl rfl rfl (by kernel_rfl) (by kernel_rfl) (by kernel_rfl) (fun _ _ _ h => h) ((wanted_of hF rfl rfl rfl rfl).trans (by rw [hb20]; rfl)) hS rfl ?_; clear hF; intro a hF
          refine r_off 13 hF rfl rfl rfl (by kernel_rfl) (by kernel_rfl) (by kernel_rfl) (fun _ _ _ h => h) ((wanted_of hF rfl rfl rfl rfl).trans (by rw [hb20]; rfl)) hS rfl ?_; clear hF; intro a hF
          refine r_off 14 hF rfl rfl rfl (by kernel_rfl) (by kernel_rfl) (by kernel_rfl) (fun _ _ _ h => h) ((wanted_of hF rfl rfl rfl rfl).trans (by rw [hb20]; rfl)) hS rfl ?_; clear hF; intro a hF
          refine r_take 15 hF rfl rfl rfl (by kernel_rfl) (by kernel_rfl) (by kernel_rfl) (fun _ _ _ h => h) rfl hS (fun w hS => x_pickF (hF.tmp 20 rfl) hb20 rfl) rfl ?_; clear hF; intro a hF
          refine r_end (by kernel_rfl) ?_; clear hS
          exact hJr5 _ _ false (by first | exact sc_f (by omega) | exact sc_t (by omega) (lt_g _ _ _) | exact sc_t (by omega) (nlt_g _ _ _)) ((((((hF.bare.add hF 32 rfl).add hF 8 rfl).add hF 7 rfl).add hF 2 rfl).add hF 1 rfl).add hF 0 rfl) (hH.sub _ (sub_cons (sub_nil _) 900 rfl))
    · have hk14_20 := hc14; try simp only [Bool.or_eq_true, Bool.and_eq_true, Bool.or_eq_false_iff, Bool.and_eq_false_iff, Bool.not_eq_true', Bool.not_eq_false', decide_eq_true_eq, decide_eq_false_iff_not, Bool.not_true, Bool.not_false] at hc14
      refine wp_exit ?_
      refine hK3 _ _ ?_
      refine wp_seq_k fun khK36 hK36 => ?_
      refine wp_region_lit ?_
      refine l_at hF rfl rfl rfl (x_assign rfl) ?_; clear hF; intro a hF
      refine wpList_nil ?_
      refine hK36 _ _ ?_
      refine wp_ret ?_
      try simp only [Exit.then, Exit.inBlock]
      have hpt : partialInsertionSort ltInt d la lb = (dk, false) := hq0_4.symm.trans (pi_zero (by omega))
      exact fin_ret hF (res1 hF rfl rfl) ⟨by rw [hpt] <;> rfl, hH.mods, by rw [hpt]; exact hH.row 900 rfl⟩

end Go.Proofs.Ytlcnoibjhmflnaa.Act
