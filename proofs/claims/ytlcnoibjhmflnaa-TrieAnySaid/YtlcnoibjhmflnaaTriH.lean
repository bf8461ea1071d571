/- The heap of the great sort. -/
import Derived.Test.YtlcnoibjhmflnaaSrz
import Derived.Test.YtlcnoibjhmflnaaTriX
set_option linter.unusedVariables false
set_option linter.unusedSimpArgs false
namespace Go.Proofs.Ytlcnoibjhmflnaa.Act
open Go.RowKit Go.Proofs.Ytlcnoibjhmflnaa.Sx Go.Sort Go.Proofs.Ytlcnoibjhmflnaa.Cod
set_option maxRecDepth 100000 in
set_option maxHeartbeats 1000000 in
theorem sift_calls (w0 : World) {v : Value} {d : Array Int} (h : Row RB 5 w0 (fun _ => False) v d.toList) {root hi first : Nat} (hb : first + hi ≤ d.size) (hroot : root < 1000000000) (hsz : d.size < 1000000000) : Calls Try.prog 56 #[v, .int .i64 (root : Int), .int .i64 (hi : Int), .int .i64 (first : Int)] w0 fun e w' => e = .returned (.tuple #[]) ∧ Mods (fun k => v.ownBlock = some k) w0 w' ∧ Row RB 5 w' (fun _ => False) v (siftDown ltInt hi first root d).toList := by
  refine calls_of_wp Try.func56 rfl ?_
  have hF := Fr.enter #[v, .int .i64 (root : Int), .int .i64 (hi : Int), .int .i64 (first : Int)] 76 (slotsOf [v, .int .i64 (root : Int), .int .i64 (hi : Int), .int .i64 (first : Int)] 0) (Nat.le_of_ble_eq_true rfl) (fun i v h => by have h2 := (get_slotsOf _ 0 i v h).2; simpa only [List.getElem?_toArray, Nat.sub_zero] using h2)
  rw [Try.ntmps56]
  revert hF; generalize (⟨(#[v, .int .i64 (root : Int), .int .i64 (hi : Int), .int .i64 (first : Int)] : Array Value) ++ Array.replicate (76 - (#[v, .int .i64 (root : Int), .int .i64 (hi : Int), .int .i64 (first : Int)] : Array Value).size) undef, []⟩ : Act) = a; intro hF
  have hH := Hp.ownrow 900 h (fun _ h => h.elim) (fun _ _ h => h)
  have hdl : d.toList.length = d.size := by simp
  refine wp_seq_k fun khK1 hK1 => ?_
  refine wp_region_lit ?_
  refine l_at hF rfl rfl rfl (x_move (hF.tmp 1 rfl)) ?_; clear hF; intro a hF
  refine l_at hF rfl rfl rfl (x_assign (hF.tmp 10 rfl)) ?_; clear hF; intro a hF
  refine wpList_nil ?_
  refine hK1 _ _ ?_
  refine wp_block ?_
  refine wp_loop_ghost (fun n_ a w => ∃ r : Nat, ∃ dk : Array Int, n_ = hi - r ∧ (dk.size = d.size) ∧ (siftDown ltInt hi first r dk = siftDown ltInt hi first root d) ∧ (r < 1000000000) ∧ Fr 76 a [(0, v), (2, .int .i64 (hi : Int)), (3, .int .i64 (first : Int)), (8, .int .i64 (r : Int))] ∧ Hp (fun k => v.ownBlock = some k) w0 w [(900, .row RB 5 v dk.toList (fun _ => False))]) (hi - root) ?_ ?_
  · exact ⟨root, d, rfl, rfl, rfl, by omega, ((((hF.bare.add hF 8 rfl).add hF 3 rfl).add hF 2 rfl).add hF 0 rfl), hH.sub _ (sub_cons (sub_nil _) 900 rfl)⟩
  · rintro _ a w ⟨r, dk, rfl, hq0_0, hq0_1, hq0_2, hF, hH⟩
    have hl_dk : dk.toList.length = d.size := by simp only [Array.length_toList]; omega
    refine wp_block ?_
    refine wp_seq_k fun khK2 hK2 => ?_
    refine wp_region_lit ?_
    refine l_at hF rfl rfl rfl (x_move (hF.tmp 8 rfl)) ?_; clear hF; intro a hF
    refine l_at hF rfl rfl rfl (x_mul rfl (hF.tmp 11 rfl) (show IntKind.i64.wrap _ = ((2 * r : Nat) : Int) from by rw [w64 (by omega) (by omega)] <;> omega)) ?_; clear hF; intro a hF
    refine l_at hF rfl rfl rfl (x_add (hF.tmp 12 rfl) rfl (show IntKind.i64.wrap _ = (((2 * r) + 1 : Nat) : Int) from by rw [w64 (by omega) (by omega)] <;> omega)) ?_; clear hF; intro a hF
    refine l_at hF rfl rfl rfl (x_assign (hF.tmp 13 rfl)) ?_; clear hF; intro a hF
    refine wpList_nil ?_
    refine hK2 _ _ ?_
    refine wp_seq_k fun khK3 hK3 => ?_
    refine wp_seq_k fun khK4 hK4 => ?_
    refine wp_region_lit ?_
    refine l_at hF rfl rfl rfl (x_move (hF.tmp 9 rfl)) ?_; clear hF; intro a hF
    refine l_at hF rfl rfl rfl (x_move (hF.tmp 2 rfl)) ?_; clear hF; intro a hF
    refine l_at hF rfl rfl rfl (x_geq (hF.tmp 14 rfl) (hF.tmp 15 rfl)) ?_; clear hF; intro a hF
    refine wpList_nil ?_
    refine hK4 _ _ ?_
    refine wp_cond_split (hF.tmp 16 rfl) (fun hc16 => ?_) (fun hc16 => ?_)
    · have hk16_1 := hc16; try simp only [Bool.or_eq_true, Bool.and_eq_true, Bool.or_eq_false_iff, Bool.and_eq_false_iff, Bool.not_eq_true', Bool.not_eq_false', decide_eq_true_eq, decide_eq_false_iff_not, Bool.not_true, Bool.not_false] at hc16
      refine wp_exit ?_
      try simp only [Exit.then, Exit.inBlock]
      try simp only [if_true]
      try simp only [Nat.reduceEqDiff, reduceIte]
      have hfin : siftDown ltInt hi first root d = dk := by rw [← hq0_1]; first | exact sd_stop2 (by omega) hj36_0 h52 | exact sd_stop1 (by omega)
      first | exact fin_end hF (res0 rfl) ⟨rfl, hH.mods, by rw [hfin]; exact hH.row 900 rfl⟩ | exact fin_ret hF (res0 rfl) ⟨rfl, hH.mods, by rw [hfin]; exact hH.row 900 rfl⟩
    · have hk16_2 := hc16; try simp only [Bool.or_eq_true, Bool.and_eq_true, Bool.or_eq_false_iff, Bool.and_eq_false_iff, Bool.not_eq_true', Bool.not_eq_false', decide_eq_true_eq, decide_eq_false_iff_not, Bool.not_true, Bool.not_false] at hc16
      refine wp_skip ?_
      refine hK3 _ _ ?_
      refine wp_seq_k fun khK5 hK5 => ?_
      refine wp_seq_k fun khK6 hK6 => ?_
      have hJr3 : ∀ a w, ∀ c3 : Bool, (c3 = (decide (2 * r + 1 + 1 < hi) && ltInt dk[first + (2 * r + 1)]! dk[first + (2 * r + 1) + 1]!)) → Fr 76 a [(0, v), (2, .int .i64 (hi : Int)), (3, .int .i64 (first : Int)), (8, .int .i64 (r : Int)), (9, .int .i64 (((2 * r) + 1 : Nat) : Int)), (36, .bool c3)] → Hp (fun k => v.ownBlock = some k) w0 w [(900, .row RB 5 v dk.toList (fun _ => False))] → khK6 a w := by
        intro a w c3 hjr3_0 hF hH
        refine hK6 a w ?_
        have hJ36 : ∀ a w, ∀ ch : Nat, (ch = chil hi first r dk) → (ch < hi) → (r < ch) → Fr 76 a [(0, v), (2, .int .i64 (hi : Int)), (3, .int .i64 (first : Int)), (8, .int .i64 (r : Int)), (9, .int .i64 (ch : Int))] → Hp (fun k => v.ownBlock = some k) w0 w [(900, .row RB 5 v dk.toList (fun _ => False))] → khK5 a w := by
          intro a w ch hj36_0 hj36_1 hj36_2 hF hH
          refine hK5 a w ?_
          refine wp_seq_k fun khK7 hK7 => ?_
          refine wp_seq_k fun khK8 hK8 => ?_
          refine r_start [(900, .row RB 5 v dk.toList (fun _ => False))] (by kernel_rfl) hH fun hH => ?_
          have hS : SL [(900, .row RB 5 v dk.toList (fun _ => False))] _ := SL.of hH (sub_cons (sub_nil _) 900 rfl)
          refine r_take 0 hF rfl rfl rfl (by kernel_rfl) (by kernel_rfl) (by kernel_rfl) (fun _ _ _ h => h) rfl hS (fun w hS => x_move (hF.tmp 0 rfl)) rfl ?_; clear hF; intro a hF
          refine r_take 1 hF rfl rfl rfl (by kernel_rfl) (by kernel_rfl) (by kernel_rfl) (fun _ _ _ h => h) rfl hS (fun w hS => x_move (hF.tmp 3 rfl)) rfl ?_; clear hF; intro a hF
          refine r_take 2 hF rfl rfl rfl (by kernel_rfl) (by kernel_rfl) (by kernel_rfl) (fun _ _ _ h => h) rfl hS (fun w hS => x_move (hF.tmp 8 rfl)) rfl ?_; clear hF; intro a hF
          refine r_take 3 hF rfl rfl rfl (by kernel_rfl) (by kernel_rfl) (by kernel_rfl) (fun _ _ _ h => h) rfl hS (fun w hS => x_add (hF.tmp 40 rfl) (hF.tmp 41 rfl) (show IntKind.i64.wrap _ = ((first + r : Nat) : Int) from by rw [w64 (by omega) (by omega)] <;> omega)) rfl ?_; clear hF; intro a hF
          refine r_take 4 hF rfl rfl rfl (by kernel_rfl) (by kernel_rfl) (by kernel_rfl) (fun _ _ _ h => h) rfl hS (fun w hS => x_iaddrV Try.underlying72 ty5 (hH.row 900 rfl) (hF.tmp 39 rfl) (hF.tmp 42 rfl) (by omega) (by omega) _) rfl ?_; clear hF; intro a hF
          refine r_take 5 hF rfl rfl rfl (by kernel_rfl) (by kernel_rfl) (by kernel_rfl) (fun _ _ _ h => h) rfl hS (fun w hS => x_load1 ty5 (hF.tmp 43 rfl) ((Row.rdV (SL.row hS 900 rfl)).cellA (gi_some (xs := dk.toList) (i := ((first + r : Nat) : Int)) (by omega) (by omega)))) rfl ?_; clear hF; intro a hF
          refine r_take 6 hF rfl rfl rfl (by kernel_rfl) (by kernel_rfl) (by kernel_rfl) (fun _ _ _ h => h) rfl hS (fun w hS => x_move (hF.tmp 0 rfl)) rfl ?_; clear hF; intro a hF
          refine r_take 7 hF rfl rfl rfl (by kernel_rfl) (by kernel_rfl) (by kernel_rfl) (fun _ _ _ h => h) rfl hS (fun w hS => x_move (hF.tmp 3 rfl)) rfl ?_; clear hF; intro a hF
          refine r_take 8 hF rfl rfl rfl (by kernel_rfl) (by kernel_rfl) (by kernel_rfl) (fun _ _ _ h => h) rfl hS (fun w hS => x_move (hF.tmp 9 rfl)) rfl ?_; clear hF; intro a hF
          refine r_take 9 hF rfl rfl rfl (by kernel_rfl) (by kernel_rfl) (by kernel_rfl) (fun _ _ _ h => h) rfl hS (fun w hS => x_add (hF.tmp 46 rfl) (hF.tmp 47 rfl) (show IntKind.i64.wrap _ = ((first + ch : Nat) : Int) from by rw [w64 (by omega) (by omega)] <;> omega)) rfl ?_; clear hF; intro a hF
          refine r_take 10 hF rfl rfl rfl (by kernel_rfl) (by kernel_rfl) (by kernel_rfl) (fun _ _ _ h => h) rfl hS (fun w hS => x_iaddrV Try.underlying72 ty5 (hH.row 900 rfl) (hF.tmp 45 rfl) (hF.tmp 48 rfl) (by omega) (by omega) _) rfl ?_; clear hF; intro a hF
          refine r_take 11 hF rfl rfl rfl (by kernel_rfl) (by kernel_rfl) (by kernel_rfl) (fun _ _ _ h => h) rfl hS (fun w hS => x_load1 ty5 (hF.tmp 49 rfl) ((Row.rdV (SL.row hS 900 rfl)).cellA (gi_some (xs := dk.toList) (i := ((first + ch : Nat) : Int)) (by omega) (by omega)))) rfl ?_; clear hF; intro a hF
          refine r_do 12 rfl (by kernel_rfl) rfl rfl ?_
          refine w_call hF (x_enter Try.func51 (by kernel_rfl) rfl (by simp only [List.map_toArray, List.map_cons, List.map_nil, hF.tmp 44 rfl, hF.tmp 50 rfl] <;> rfl)) (less_calls _ _ _) rfl rfl ?_
          rintro _ w ⟨rfl, hm_⟩; refine ⟨_, rfl, ?_⟩; clear hF; intro a hF; have hH := hH.same hm_
          clear hS; have hS : SL _ _ := SL.of hH (sub_cons (sub_nil _) 900 rfl); refine ⟨hS, ?_⟩
          refine r_take 13 hF rfl rfl rfl (by kernel_rfl) (by kernel_rfl) (by kernel_rfl) (fun _ _ _ h => h) rfl hS (fun w hS => x_not (hF.tmp 51 rfl)) rfl ?_; clear hF; intro a hF
          refine r_end (by kernel_rfl) ?_; clear hS
          refine hK8 _ _ ?_
          refine wp_cond_split (hF.tmp 52 rfl) (fun hc52 => ?_) (fun hc52 => ?_)
          · have hk52_3 := hc52; try simp only [Bool.or_eq_true, Bool.and_eq_true, Bool.or_eq_false_iff, Bool.and_eq_false_iff, Bool.not_eq_true', Bool.not_eq_false', decide_eq_true_eq, decide_eq_false_iff_not, Bool.not_true, Bool.not_false] at hc52
            have h52 : (!ltInt dk[first + r]! dk[first + ch]!) = true := by rw [← nlt_g]; simpa using hc52
            refine wp_ret ?_
            try simp only [Exit.then, Exit.inBlock]
            have hfin : siftDown ltInt hi first root d = dk := by rw [← hq0_1]; first | exact sd_stop2 (by omega) hj36_0 h52 | exact sd_stop1 (by omega)
            first | exact fin_end hF (res0 rfl) ⟨rfl, hH.mods, by rw [hfin]; exact hH.row 900 rfl⟩ | exact fin_ret hF (res0 rfl) ⟨rfl, hH.mods, by rw [hfin]; exact hH.row 900 rfl⟩
          · have hk52_4 := hc52; try simp only [Bool.or_eq_true, Bool.and_eq_true, Bool.or_eq_false_iff, Bool.and_eq_false_iff, Bool.not_eq_true', Bool.not_eq_false', decide_eq_true_eq, decide_eq_false_iff_not, Bool.not_true, Bool.not_false] at hc52
            have h52 : ¬ (!ltInt dk[first + r]! dk[first + ch]!) = true := by rw [← nlt_g]; simpa using hc52
            refine wp_skip ?_
            refine hK7 _ _ ?_
            refine wp_seq_k fun khK9 hK9 => ?_
            have hJr6 : ∀ a w, Fr 76 a [(0, v), (2, .int .i64 (hi : Int)), (3, .int .i64 (first : Int)), (9, .int .i64 (ch : Int))] → Hp (fun k => v.ownBlock = some k) w0 w [(900, .row RB 5 v (swp dk (first + r) (first + ch)).toList (fun _ => False))] → khK9 a w := by
              intro a w  hF hH
              refine hK9 a w ?_
              refine wp_region_lit ?_
              refine l_at hF rfl rfl rfl (x_move (hF.tmp 9 rfl)) ?_; clear hF; intro a hF
              refine l_at hF rfl rfl rfl (x_assign (hF.tmp 75 rfl)) ?_; clear hF; intro a hF
              refine wpList_nil ?_
              exact ⟨_, by omega, ⟨ch, (swp dk (first + r) (first + ch)), rfl, (by rw [Sx.swp_size]; exact hq0_0), (by rw [sd_step (by omega) hj36_0 (by omega) h52]; exact hq0_1), by omega, ((((hF.bare.add hF 8 rfl).add hF 3 rfl).add hF 2 rfl).add hF 0 rfl), hH.sub _ (sub_cons (sub_nil _) 900 rfl)⟩⟩
            refine r_start [] (by kernel_rfl) hH fun hH => ?_
            have hS : SL [] _ := SL.of hH (sub_nil _)
            refine r_take 0 hF rfl rfl rfl (by kernel_rfl) (by kernel_rfl) (by kernel_rfl) (fun _ _ _ h => h) rfl hS (fun w hS => x_move (hF.tmp 0 rfl)) rfl ?_; clear hF; intro a hF
            refine r_take 1 hF rfl rfl rfl (by kernel_rfl) (by kernel_rfl) (by kernel_rfl) (fun _ _ _ h => h) rfl hS (fun w hS => x_move (hF.tmp 3 rfl)) rfl ?_; clear hF; intro a hF
            refine r_take 2 hF rfl rfl rfl (by kernel_rfl) (by kernel_rfl) (by kernel_rfl) (fun _ _ _ h => h) rfl hS (fun w hS => x_move (hF.tmp 8 rfl)) rfl ?_; clear hF; intro a hF
            refine r_take 3 hF rfl rfl rfl (by kernel_rfl) (by kernel_rfl) (by kernel_rfl) (fun _ _ _ h => h) rfl hS (fun w hS => x_add (hF.tmp 54 rfl) (hF.tmp 55 rfl) (show IntKind.i64.wrap _ = ((first + r : Nat) : Int) from by rw [w64 (by omega) (by omega)] <;> omega)) rfl ?_; clear hF; intro a hF
            refine r_take 4 hF rfl rfl rfl (by kernel_rfl) (by kernel_rfl) (by kernel_rfl) (fun _ _ _ h => h) rfl hS (fun w hS => x_move (hF.tmp 0 rfl)) rfl ?_; clear hF; intro a hF
            refine r_take 5 hF rfl rfl rfl (by kernel_rfl) (by kernel_rfl) (by kernel_rfl) (fun _ _ _ h => h) rfl hS (fun w hS => x_move (hF.tmp 3 rfl)) rfl ?_; clear hF; intro a hF
            refine r_take 6 hF rfl rfl rfl (by kernel_rfl) (by kernel_rfl) (by kernel_rfl) (fun _ _ _ h => h) rfl hS (fun w hS => x_move (hF.tmp 9 rfl)) rfl ?_; clear hF; intro a hF
            refine r_take 7 hF rfl rfl rfl (by kernel_rfl) (by kernel_rfl) (by kernel_rfl) (fun _ _ _ h => h) rfl hS (fun w hS => x_add (hF.tmp 58 rfl) (hF.tmp 59 rfl) (show IntKind.i64.wrap _ = ((first + ch : Nat) : Int) from by rw [w64 (by omega) (by omega)] <;> omega)) rfl ?_; clear hF; intro a hF
            refine r_take 8 hF rfl rfl rfl (by kernel_rfl) (by kernel_rfl) (by kernel_rfl) (fun _ _ _ h => h) rfl hS (fun w hS => x_move (hF.tmp 0 rfl)) rfl ?_; clear hF; intro a hF
            refine r_take 9 hF rfl rfl rfl (by kernel_rfl) (by kernel_rfl) (by kernel_rfl) (fun _ _ _ h => h) rfl hS (fun w hS => x_move (hF.tmp 3 rfl)) rfl ?_; clear hF; intro a hF
            refine r_take 10 hF rfl rfl rfl (by kernel_rfl) (by kernel_rfl) (by kernel_rfl) (fun _ _ _ h => h) rfl hS (fun w hS => x_move (hF.tmp 9 rfl)) rfl ?_; clear hF; intro a hF
            refine r_take 11 hF rfl rfl rfl (by kernel_rfl) (by kernel_rfl) (by kernel_rfl) (fun _ _ _ h => h) rfl hS (fun w hS => x_add (hF.tmp 62 rfl) (hF.tmp 63 rfl) (show IntKind.i64.wrap _ = ((first + ch : Nat) : Int) from by rw [w64 (by omega) (by omega)] <;> omega)) rfl ?_; clear hF; intro a hF
            refine r_take 12 hF rfl rfl rfl (by kernel_rfl) (by kernel_rfl) (by kernel_rfl) (fun _ _ _ h => h) rfl hS (fun w hS => x_iaddrV Try.underlying72 ty5 (hH.row 900 rfl) (hF.tmp 61 rfl) (hF.tmp 64 rfl) (by omega) (by omega) _) rfl ?_; clear hF; intro a hF
            refine r_take 14 hF rfl rfl rfl (by kernel_rfl) (by kernel_rfl) (by kernel_rfl) (fun _ _ _ h => h) rfl hS (fun w hS => x_move (hF.tmp 0 rfl)) rfl ?_; clear hF; intro a hF
            refine r_take 15 hF rfl rfl rfl (by kernel_rfl) (by kernel_rfl) (by kernel_rfl) (fun _ _ _ h => h) rfl hS (fun w hS => x_move (hF.tmp 3 rfl)) rfl ?_; clear hF; intro a hF
            refine r_take 16 hF rfl rfl rfl (by kernel_rfl) (by kernel_rfl) (by kernel_rfl) (fun _ _ _ h => h) rfl hS (fun w hS => x_move (hF.tmp 8 rfl)) rfl ?_; clear hF; intro a hF
            refine r_take 17 hF rfl rfl rfl (by kernel_rfl) (by kernel_rfl) (by kernel_rfl) (fun _ _ _ h => h) rfl hS (fun w hS => x_add (hF.tmp 68 rfl) (hF.tmp 69 rfl) (show IntKind.i64.wrap _ = ((first + r : Nat) : Int) from by rw [w64 (by omega) (by omega)] <;> omega)) rfl ?_; clear hF; intro a hF
            refine r_take 18 hF rfl rfl rfl (by kernel_rfl) (by kernel_rfl) (by kernel_rfl) (fun _ _ _ h => h) rfl hS (fun w hS => x_iaddrV Try.underlying72 ty5 (hH.row 900 rfl) (hF.tmp 67 rfl) (hF.tmp 70 rfl) (by omega) (by omega) _) rfl ?_; clear hF; intro a hF
            refine r_do2 13 19 rfl rfl (by kernel_rfl) rfl rfl rfl rfl ?_ ?_
            ·
              refine w_at hF (x_load1 ty5 (hF.tmp 65 rfl) ((Row.rdV (hH.row 900 rfl)).cellA (gi_some (xs := dk.toList) (i := ((first + ch : Nat) : Int)) (by omega) (by omega)))) rfl rfl ?_
              clear hF; intro a hF
              clear hS; have hS : SL _ _ := SL.of hH (sub_nil _); refine ⟨hS, ?_⟩
              refine r_do 19 rfl (by kernel_rfl) rfl rfl ?_
              refine w_at hF (x_load1 ty5 (hF.tmp 71 rfl) ((Row.rdV (hH.row 900 rfl)).cellA (gi_some (xs := dk.toList) (i := ((first + r : Nat) : Int)) (by omega) (by omega)))) rfl rfl ?_
              clear hF; intro a hF
              clear hS; have hS : SL _ _ := SL.of hH (sub_nil _); refine ⟨hS, ?_⟩
              refine r_take 20 hF rfl rfl rfl (by kernel_rfl) (by kernel_rfl) (by kernel_rfl) (fun _ _ _ h => h) rfl hS (fun w hS => x_iaddrV Try.underlying72 ty5 (hH.row 900 rfl) (hF.tmp 53 rfl) (hF.tmp 56 rfl) (by omega) (by omega) _) rfl ?_; clear hF; intro a hF
              refine r_do 21 rfl (by kernel_rfl) rfl rfl ?_
              refine w_setV (xs := dk.toList) 900 (first + r) (gi dk.toList (((first + ch) : Nat) : Int)) hH ty5 rfl (by first | omega | (simp only [List.length_set]; omega)) (hF.tmp 73 rfl) (hF.tmp 66 rfl) ?_
              clear hH; intro w hH
              clear hS; have hS : SL _ _ := SL.of hH (sub_nil _); refine ⟨hS, ?_⟩
              refine r_take 22 hF rfl rfl rfl (by kernel_rfl) (by kernel_rfl) (by kernel_rfl) (fun _ _ _ h => h) rfl hS (fun w hS => x_iaddrV Try.underlying72 ty5 (hH.row 900 rfl) (hF.tmp 57 rfl) (hF.tmp 60 rfl) (by omega) (by first | omega | (simp only [List.length_set]; omega)) _) rfl ?_; clear hF; intro a hF
              refine r_do 23 rfl (by kernel_rfl) rfl rfl ?_
              refine w_setV (xs := (dk.toList.set (first + r) (gi dk.toList (((first + ch) : Nat) : Int)))) 900 (first + ch) (gi dk.toList (((first + r) : Nat) : Int)) hH ty5 rfl (by first | omega | (simp only [List.length_set]; omega)) (hF.tmp 74 rfl) (hF.tmp 72 rfl) ?_
              clear hH; intro w hH
              clear hS; have hS : SL _ _ := SL.of hH (sub_nil _); refine ⟨hS, ?_⟩
              have hH := hH.relab 900 (Y := .row RB 5 v (swp dk (first + r) (first + ch)).toList (fun _ => False)) rfl (by rw [swp_list])
              refine r_end (by kernel_rfl) ?_; clear hS
              exact hJr6 _ _  ((((hF.bare.add hF 9 rfl).add hF 3 rfl).add hF 2 rfl).add hF 0 rfl) (hH.sub _ (sub_cons (sub_nil _) 900 rfl))
            ·
              refine w_at hF (x_load1 ty5 (hF.tmp 71 rfl) ((Row.rdV (hH.row 900 rfl)).cellA (gi_some (xs := dk.toList) (i := ((first + r : Nat) : Int)) (by omega) (by omega)))) rfl rfl ?_
              clear hF; intro a hF
              clear hS; have hS : SL _ _ := SL.of hH (sub_nil _); refine ⟨hS, ?_⟩
              refine r_do 13 rfl (by kernel_rfl) rfl rfl ?_
              refine w_at hF (x_load1 ty5 (hF.tmp 65 rfl) ((Row.rdV (hH.row 900 rfl)).cellA (gi_some (xs := dk.toList) (i := ((first + ch : Nat) : Int)) (by omega) (by omega)))) rfl rfl ?_
              clear hF; intro a hF
              clear hS; have hS : SL _ _ := SL.of hH (sub_nil _); refine ⟨hS, ?_⟩
              refine r_take 20 hF rfl rfl rfl (by kernel_rfl) (by kernel_rfl) (by kernel_rfl) (fun _ _ _ h => h) rfl hS (fun w hS => x_iaddrV Try.underlying72 ty5 (hH.row 900 rfl) (hF.tmp 53 rfl) (hF.tmp 56 rfl) (by omega) (by omega) _) rfl ?_; clear hF; intro a hF
              refine r_do 21 rfl (by kernel_rfl) rfl rfl ?_
              refine w_setV (xs := dk.toList) 900 (first + r) (gi dk.toList (((first + ch) : Nat) : Int)) hH ty5 rfl (by first | omega | (simp only [List.length_set]; omega)) (hF.tmp 73 rfl) (hF.tmp 66 rfl) ?_
              clear hH; intro w hH
              clear hS; have hS : SL _ _ := SL.of hH (sub_nil _); refine ⟨hS, ?_⟩
              refine r_take 22 hF rfl rfl rfl (by kernel_rfl) (by kernel_rfl) (by kernel_rfl) (fun _ _ _ h => h) rfl hS (fun w hS => x_iaddrV Try.underlying72 ty5 (hH.row 900 rfl) (hF.tmp 57 rfl) (hF.tmp 60 rfl) (by omega) (by first | omega | (simp only [List.length_set]; omega)) _) rfl ?_; clear hF; intro a hF
              refine r_do 23 rfl (by kernel_rfl) rfl rfl ?_
              refine w_setV (xs := (dk.toList.set (first + r) (gi dk.toList (((first + ch) : Nat) : Int)))) 900 (first + ch) (gi dk.toList (((first + r) : Nat) : Int)) hH ty5 rfl (by first | omega | (simp only [List.length_set]; omega)) (hF.tmp 74 rfl) (hF.tmp 72 rfl) ?_
              clear hH; intro w hH
              clear hS; have hS : SL _ _ := SL.of hH (sub_nil _); refine ⟨hS, ?_⟩
              have hH := hH.relab 900 (Y := .row RB 5 v (swp dk (first + r) (first + ch)).toList (fun _ => False)) rfl (by rw [swp_list])
              refine r_end (by kernel_rfl) ?_; clear hS
              exact hJr6 _ _  ((((hF.bare.add hF 9 rfl).add hF 3 rfl).add hF 2 rfl).add hF 0 rfl) (hH.sub _ (sub_cons (sub_nil _) 900 rfl))
        refine wp_cond_split (hF.tmp 36 rfl) (fun hc36 => ?_) (fun hc36 => ?_)
        · have hk36_5 := hc36; try simp only [Bool.or_eq_true, Bool.and_eq_true, Bool.or_eq_false_iff, Bool.and_eq_false_iff, Bool.not_eq_true', Bool.not_eq_false', decide_eq_true_eq, decide_eq_false_iff_not, Bool.not_true, Bool.not_false] at hc36
          have h36 := sc_of hjr3_0 hc36
          refine wp_region_lit ?_
          refine l_at hF rfl rfl rfl (x_move (hF.tmp 9 rfl)) ?_; clear hF; intro a hF
          refine l_at hF rfl rfl rfl (x_add (hF.tmp 37 rfl) rfl (show IntKind.i64.wrap _ = ((((2 * r) + 1) + 1 : Nat) : Int) from by rw [w64 (by omega) (by omega)] <;> omega)) ?_; clear hF; intro a hF
          refine l_at hF rfl rfl rfl (x_assign (hF.tmp 38 rfl)) ?_; clear hF; intro a hF
          refine wpList_nil ?_
          exact hJ36 _ _ (2 * r + 1 + 1) (chil_t hjr3_0 hc36) (by omega) (by omega) (((((hF.bare.add hF 9 rfl).add hF 8 rfl).add hF 3 rfl).add hF 2 rfl).add hF 0 rfl) (hH.sub _ (sub_cons (sub_nil _) 900 rfl))
        · have hk36_6 := hc36; try simp only [Bool.or_eq_true, Bool.and_eq_true, Bool.or_eq_false_iff, Bool.and_eq_false_iff, Bool.not_eq_true', Bool.not_eq_false', decide_eq_true_eq, decide_eq_false_iff_not, Bool.not_true, Bool.not_false] at hc36
          refine wp_skip ?_
          exact hJ36 _ _ (2 * r + 1) (chil_f hjr3_0 hc36) (by omega) (by omega) (((((hF.bare.add hF 9 rfl).add hF 8 rfl).add hF 3 rfl).add hF 2 rfl).add hF 0 rfl) (hH.sub _ (sub_cons (sub_nil _) 900 rfl))
      refine r_start [(900, .row RB 5 v dk.toList (fun _ => False))] (by kernel_rfl) hH fun hH => ?_
      have hS : SL [(900, .row RB 5 v dk.toList (fun _ => False))] _ := SL.of hH (sub_cons (sub_nil _) 900 rfl)
      refine r_take 0 hF rfl rfl rfl (by kernel_rfl) (by kernel_rfl) (by kernel_rfl) (fun _ _ _ h => h) rfl hS (fun w hS => x_move (hF.tmp 9 rfl)) rfl ?_; clear hF; intro a hF
      refine r_take 1 hF rfl rfl rfl (by kernel_rfl) (by kernel_rfl) (by kernel_rfl) (fun _ _ _ h => h) rfl hS (fun w hS => x_add (hF.tmp 17 rfl) rfl (show IntKind.i64.wrap _ = ((((2 * r) + 1) + 1 : Nat) : Int) from by rw [w64 (by omega) (by omega)] <;> omega)) rfl ?_; clear hF; intro a hF
      refine r_take 2 hF rfl rfl rfl (by kernel_rfl) (by kernel_rfl) (by kernel_rfl) (fun _ _ _ h => h) rfl hS (fun w hS => x_move (hF.tmp 2 rfl)) rfl ?_; clear hF; intro a hF
      refine r_take 3 hF rfl rfl rfl (by kernel_rfl) (by kernel_rfl) (by kernel_rfl) (fun _ _ _ h => h) rfl hS (fun w hS => x_lss (hF.tmp 18 rfl) (hF.tmp 19 rfl)) rfl ?_; clear hF; intro a hF
      refine r_take 4 hF rfl rfl rfl (by kernel_rfl) (by kernel_rfl) (by kernel_rfl) (fun _ _ _ h => h) rfl hS (fun w hS => x_move (hF.tmp 20 rfl)) rfl ?_; clear hF; intro a hF
      refine split_bool hF 21 rfl (fun hb21 => ?_) (fun hb21 => ?_)
      · have hc21 := hb21; try simp only [Bool.or_eq_true, Bool.and_eq_true, Bool.or_eq_false_iff, Bool.and_eq_false_iff, Bool.not_eq_true', Bool.not_eq_false', decide_eq_true_eq, decide_eq_false_iff_not, Bool.not_true, Bool.not_false] at hc21
        refine r_take 5 hF rfl rfl rfl (by kernel_rfl) (by kernel_rfl) (by kernel_rfl) (fun _ _ _ h => h) ((wanted_of hF rfl rfl rfl rfl).trans (by rw [hb21]; rfl)) hS (fun w hS => x_move (hF.tmp 0 rfl)) rfl ?_; clear hF; intro a hF
        refine r_take 6 hF rfl rfl rfl (by kernel_rfl) (by kernel_rfl) (by kernel_rfl) (fun _ _ _ h => h) ((wanted_of hF rfl rfl rfl rfl).trans (by rw [hb21]; rfl)) hS (fun w hS => x_move (hF.tmp 3 rfl)) rfl ?_; clear hF; intro a hF
        refine r_take 7 hF rfl rfl rfl (by kernel_rfl) (by kernel_rfl) (by kernel_rfl) (fun _ _ _ h => h) ((wanted_of hF rfl rfl rfl rfl).trans (by rw [hb21]; rfl)) hS (fun w hS => x_move (hF.tmp 9 rfl)) rfl ?_; clear hF; intro a hF
        refine r_take 8 hF rfl rfl rfl (by kernel_rfl) (by kernel_rfl) (by kernel_rfl) (fun _ _ _ h => h) ((wanted_of hF rfl rfl rfl rfl).trans (by rw [hb21]; rfl)) hS (fun w hS => x_add (hF.tmp 23 rfl) (hF.tmp 24 rfl) (show IntKind.i64.wrap _ = ((first + ((2 * r) + 1) : Nat) : Int) from by rw [w64 (by omega) (by omega)] <;> omega)) rfl ?_; clear hF; intro a hF
        refine r_take 9 hF rfl rfl rfl (by kernel_rfl) (by kernel_rfl) (by kernel_rfl) (fun _ _ _ h => h) ((wanted_of hF rfl rfl rfl rfl).trans (by rw [hb21]; rfl)) hS (fun w hS => x_iaddrV Try.underlying72 ty5 (hH.row 900 rfl) (hF.tmp 22 rfl) (hF.tmp 25 rfl) (by omega) (by omega) _) rfl ?_; clear hF; intro a hF
        refine r_take 10 hF rfl rfl rfl (by kernel_rfl) (by kernel_rfl) (by kernel_rfl) (fun _ _ _ h => h) ((wanted_of hF rfl rfl rfl rfl).trans (by rw [hb21]; rfl)) hS (fun w hS => x_load1 ty5 (hF.tmp 26 rfl) ((Row.rdV (SL.row hS 900 rfl)).cellA (gi_some (xs := dk.toList) (i := ((first + ((2 * r) + 1) : Nat) : Int)) (by omega) (by omega)))) rfl ?_; clear hF; intro a hF
        refine r_take 11 hF rfl rfl rfl (by kernel_rfl) (by kernel_rfl) (by kernel_rfl) (fun _ _ _ h => h) ((wanted_of hF rfl rfl rfl rfl).trans (by rw [hb21]; rfl)) hS (fun w hS => x_move (hF.tmp 0 rfl)) rfl ?_; clear hF; intro a hF
        refine r_take 12 hF rfl rfl rfl (by kernel_rfl) (by kernel_rfl) (by kernel_rfl) (fun _ _ _ h => h) ((wanted_of hF rfl rfl rfl rfl).trans (by rw [hb21]; rfl)) hS (fun w hS => x_move (hF.tmp 3 rfl)) rfl ?_; clear hF; intro a hF
        refine r_take 13 hF rfl rfl rfl (by kernel_rfl) (by kernel_rfl) (by kernel_rfl) (fun _ _ _ h => h) ((wanted_of hF rfl rfl rfl rfl).trans (by rw [hb21]; rfl)) hS (fun w hS => x_move (hF.tmp 9 rfl)) rfl ?_; clear hF; intro a hF
        refine r_take 14 hF rfl rfl rfl (by kernel_rfl) (by kernel_rfl) (by kernel_rfl) (fun _ _ _ h => h) ((wanted_of hF rfl rfl rfl rfl).trans (by rw [hb21]; rfl)) hS (fun w hS => x_add (hF.tmp 29 rfl) (hF.tmp 30 rfl) (show IntKind.i64.wrap _ = ((first + ((2 * r) + 1) : Nat) : Int) from by rw [w64 (by omega) (by omega)] <;> omega)) rfl ?_; clear hF; intro a hF
        refine r_take 15 hF rfl rfl rfl (by kernel_rfl) (by kernel_rfl) (by kernel_rfl) (fun _ _ _ h => h) ((wanted_of hF rfl rfl rfl rfl).trans (by rw [hb21]; rfl)) hS (fun w hS => x_add (hF.tmp 31 rfl) rfl (show IntKind.i64.wrap _ = (((first + ((2 * r) + 1)) + 1 : Nat) : Int) from by rw [w64 (by omega) (by omega)] <;> omega)) rfl ?_; clear hF; intro a hF
        refine r_take 16 hF rfl rfl rfl (by kernel_rfl) (by kernel_rfl) (by kernel_rfl) (fun _ _ _ h => h) ((wanted_of hF rfl rfl rfl rfl).trans (by rw [hb21]; rfl)) hS (fun w hS => x_iaddrV Try.underlying72 ty5 (hH.row 900 rfl) (hF.tmp 28 rfl) (hF.tmp 32 rfl) (by omega) (by omega) _) rfl ?_; clear hF; intro a hF
        refine r_take 17 hF rfl rfl rfl (by kernel_rfl) (by kernel_rfl) (by kernel_rfl) (fun _ _ _ h => h) ((wanted_of hF rfl rfl rfl rfl).trans (by rw [hb21]; rfl)) hS (fun w hS => x_load1 ty5 (hF.tmp 33 rfl) ((Row.rdV (SL.row hS 900 rfl)).cellA (gi_some (xs := dk.toList) (i := (((first + ((2 * r) + 1)) + 1 : Nat) : Int)) (by omega) (by omega)))) rfl ?_; clear hF; intro a hF
        refine r_do 18 rfl (by kernel_rfl) ((wanted_of hF rfl rfl rfl rfl).trans (by rw [hb21]; rfl)) rfl ?_
        refine w_call hF (x_enter Try.func51 (by kernel_rfl) rfl (by simp only [List.map_toArray, List.map_cons, List.map_nil, hF.tmp 27 rfl, hF.tmp 34 rfl] <;> rfl)) (less_calls _ _ _) rfl rfl ?_
        rintro _ w ⟨rfl, hm_⟩; refine ⟨_, rfl, ?_⟩; clear hF; intro a hF; have hH := hH.same hm_
        clear hS; have hS : SL _ _ := SL.of hH (sub_cons (sub_nil _) 900 rfl); refine ⟨hS, ?_⟩
        refine r_take 19 hF rfl rfl rfl (by kernel_rfl) (by kernel_rfl) (by kernel_rfl) (fun _ _ _ h => h) rfl hS (fun w hS => x_pickT (hF.tmp 21 rfl) hb21 (hF.tmp 35 rfl)) rfl ?_; clear hF; intro a hF
        refine r_end (by kernel_rfl) ?_; clear hS
        exact hJr3 _ _ (decide ((gi dk.toList ((first + ((2 * r) + 1) : Nat) : Int)) < (gi dk.toList (((first + ((2 * r) + 1)) + 1 : Nat) : Int)))) (by first | exact sc_f (by omega) | exact sc_t (by omega) (lt_g _ _ _) | exact sc_t (by omega) (nlt_g _ _ _)) ((((((hF.bare.add hF 36 rfl).add hF 9 rfl).add hF 8 rfl).add hF 3 rfl).add hF 2 rfl).add hF 0 rfl) (hH.sub _ (sub_cons (sub_nil _) 900 rfl))
      · have hc21 := hb21; try simp only [Bool.or_eq_true, Bool.and_eq_true, Bool.or_eq_false_iff, Bool.and_eq_false_iff, Bool.not_eq_true', Bool.not_eq_false', decide_eq_true_eq, decide_eq_false_iff_not, Bool.not_true, Bool.not_false] at hc21
        refine r_off 5 hF rfl rfl rfl (by kernel_rfl) (by kernel_rfl) (by kernel_rfl) (fun _ _ _ h => h) ((wanted_of hF rfl rfl rfl rfl).trans (by rw [hb21]; rfl)) hS rfl ?_; clear hF; intro a hF
        refine r_off 6 hF rfl rfl rfl (by kernel_rfl) (by kernel_rfl) (by kernel_rfl) (fun _ _ _ h => h) ((wanted_of hF rfl rfl rfl rfl).trans (by rw [hb21]; rfl)) hS rfl ?_; clear hF; intro a hF
        refine r_off 7 hF rfl rfl rfl (by kernel_rfl) (by kernel_rfl) (by kernel_rfl) (fun _ _ _ h => h) ((wanted_of hF rfl rfl rfl rfl).trans (by rw [hb21]; rfl)) hS rfl ?_; clear hF; intro a hF
        refine r_off 8 hF rfl rfl rfl (by kernel_rfl) (by kernel_rfl) (by kernel_rfl) (fun _ _ _ h => h) ((wanted_of hF rfl rfl rfl rfl).trans (by rw [hb21]; rfl)) hS rfl ?_; clear hF; intro a hF
        refine r_off 9 hF rfl rfl rfl (by kernel_rfl) (by kernel_rfl) (by kernel_rfl) (fun _ _ _ h => h) ((wanted_of hF rfl rfl rfl rfl).trans (by rw [hb21]; rfl)) hS rfl ?_; clear hF; intro a hF
        refine r_off 10 hF rfl rfl rfl (by kernel_rfl) (by kernel_rfl) (by kernel_rfl) (fun _ _ _ h => h) ((wanted_of hF rfl rfl rfl rfl).trans (by rw [hb21]; rfl)) hS rfl ?_; clear hF; intro a hF
        refine r_off 11 hF rfl rfl rfl (by kernel_rfl) (by kernel_rfl) (by kernel_rfl) (fun _ _ _ h => h) ((wanted_of hF rfl rfl rfl rfl).trans (by rw [hb21]; rfl)) hS rfl ?_; clear hF; intro a hF
        refine r_off 12 hF rfl rfl rfl (by kernel_rfl) (by kernel_rfl) (by kernel_rfl) (fun _ _ _ h => h) ((wanted_of hF rfl rfl rfl rfl).trans (by rw [hb21]; rfl)) hS rfl ?_; clear hF; intro a hF
        refine r_off 13 hF rfl rfl rfl (by kernel_rfl) (by kernel_rfl) (by kernel_rfl) (fun _ _ _ h => h) ((wanted_of hF rfl rfl rfl rfl).trans (by rw [hb21]; rfl)) hS rfl ?_; clear hF; intro a hF
        refine r_off 14 hF rfl rfl rfl (by kernel_rfl) (by kernel_rfl) (by kernel_rfl) (fun _ _ _ h => h) ((wanted_of hF rfl rfl rfl rfl).trans (by rw [hb21]; rfl)) hS rfl ?_; clear hF; intro a hF
        refine r_off 15 hF rfl rfl rfl (by kernel_rfl) (by kernel_rfl) (by kernel_rfl) (fun _ _ _ h => h) ((wanted_of hF rfl rfl rfl rfl).trans (by rw [hb21]; rfl)) hS rfl ?_; clear hF; intro a hF
        refine r_off 16 hF rfl rfl rfl (by kernel_rfl) (by kernel_rfl) (by kernel_rfl) (fun _ _ _ h => h) ((wanted_of hF rfl rfl rfl rfl).trans (by rw [hb21]; rfl)) hS rfl ?_; clear hF; intro a hF
        refine r_off 17 hF rfl rfl rfl (by kernel_rfl) (by kernel_rfl) (by kernel_rfl) (fun _ _ _ h => h) ((wanted_of hF rfl rfl rfl rfl).trans (by rw [hb21]; rfl)) hS rfl ?_; clear hF; intro a hF
        refine r_off 18 hF rfl rfl rfl (by kernel_rfl) (by kernel_rfl) (by kernel_rfl) (fun _ _ _ h => h) ((wanted_of hF rfl rfl rfl rfl).trans (by rw [hb21]; rfl)) hS rfl ?_; clear hF; intro a hF
        refine r_take 19 hF rfl rfl rfl (by kernel_rfl) (by kernel_rfl) (by kernel_rfl) (fun _ _ _ h => h) rfl hS (fun w hS => x_pickF (hF.tmp 21 rfl) hb21 rfl) rfl ?_; clear hF; intro a hF
        refine r_end (by kernel_rfl) ?_; clear hS
        exact hJr3 _ _ false (by first | exact sc_f (by omega) | exact sc_t (by omega) (lt_g _ _ _) | exact sc_t (by omega) (nlt_g _ _ _)) ((((((hF.bare.add hF 36 rfl).add hF 9 rfl).add hF 8 rfl).add hF 3 rfl).add hF 2 rfl).add hF 0 rfl) (hH.sub _ (sub_cons (sub_nil _) 900 rfl))

set_option maxRecDepth 100000 in
set_option maxHeartbeats 1000000 in
theorem heap_calls (w0 : World) {v : Value} {d : Array Int} (h : Row RB 5 w0 (fun _ => False) v d.toList) {la lb : Nat} (hab : la ≤ lb) (hb : lb ≤ d.size) (hsz : d.size < 1000000000) : Calls Try.prog 46 #[v, .int .i64 (la : Int), .int .i64 (lb : Int)] w0 fun e w' => e = .returned (.tuple #[]) ∧ Mods (fun k => v.ownBlock = some k) w0 w' ∧ Row RB 5 w' (fun _ => False) v (heapSort ltInt d la lb).toList := by
  refine calls_of_wp Try.func46 rfl ?_
  have hF := Fr.enter #[v, .int .i64 (la : Int), .int .i64 (lb : Int)] 56 (slotsOf [v, .int .i64 (la : Int), .int .i64 (lb : Int)] 0) (Nat.le_of_ble_eq_true rfl) (fun i v h => by have h2 := (get_slotsOf _ 0 i v h).2; simpa only [List.getElem?_toArray, Nat.sub_zero] using h2)
  rw [Try.ntmps46]
  revert hF; generalize (⟨(#[v, .int .i64 (la : Int), .int .i64 (lb : Int)] : Array Value) ++ Array.replicate (56 - (#[v, .int .i64 (la : Int), .int .i64 (lb : Int)] : Array Value).size) undef, []⟩ : Act) = a; intro hF
  have hH := Hp.ownrow 900 h (fun _ h => h.elim) (fun _ _ h => h)
  have hdl : d.toList.length = d.size := by simp
  refine wp_seq_k fun khK1 hK1 => ?_
  refine wp_region_lit ?_
  refine l_at hF rfl rfl rfl (x_move (hF.tmp 1 rfl)) ?_; clear hF; intro a hF
  refine l_at hF rfl rfl rfl (x_assign (hF.tmp 11 rfl)) ?_; clear hF; intro a hF
  refine wpList_nil ?_
  refine hK1 _ _ ?_
  refine wp_seq_k fun khK2 hK2 => ?_
  refine wp_region_lit ?_
  refine l_at hF rfl rfl rfl (x_assign rfl) ?_; clear hF; intro a hF
  refine wpList_nil ?_
  refine hK2 _ _ ?_
  refine wp_seq_k fun khK3 hK3 => ?_
  refine wp_region_lit ?_
  refine l_at hF rfl rfl rfl (x_move (hF.tmp 2 rfl)) ?_; clear hF; intro a hF
  refine l_at hF rfl rfl rfl (x_move (hF.tmp 1 rfl)) ?_; clear hF; intro a hF
  refine l_at hF rfl rfl rfl (x_sub (hF.tmp 12 rfl) (hF.tmp 13 rfl) (show IntKind.i64.wrap _ = ((lb - la : Nat) : Int) from by rw [w64 (by omega) (by omega)] <;> omega)) ?_; clear hF; intro a hF
  refine l_at hF rfl rfl rfl (x_assign (hF.tmp 14 rfl)) ?_; clear hF; intro a hF
  refine wpList_nil ?_
  refine hK3 _ _ ?_
  refine wp_seq_k fun khK4 hK4 => ?_
  refine wp_seq_k fun khK5 hK5 => ?_
  refine wp_region_lit ?_
  refine l_at hF rfl rfl rfl (x_move (hF.tmp 8 rfl)) ?_; clear hF; intro a hF
  refine l_at hF rfl rfl rfl (x_sub (hF.tmp 15 rfl) rfl (w64 (by omega) (by omega))) ?_; clear hF; intro a hF
  refine l_at hF rfl rfl rfl (x_quo (hF.tmp 16 rfl) rfl (by omega) (half1 _ (by omega))) ?_; clear hF; intro a hF
  refine l_at hF rfl rfl rfl (x_assign (hF.tmp 17 rfl)) ?_; clear hF; intro a hF
  refine wpList_nil ?_
  refine hK5 _ _ ?_
  refine wp_block ?_
  refine wp_loop_ghost (fun n_ a w => ∃ n : Nat, ∃ dk : Array Int, n_ = 0 + n ∧ (dk.size = d.size) ∧ (heapBuild ltInt (lb - la) la n dk = heapBuild ltInt (lb - la) la ((lb - la - 1) / 2 + 1) d) ∧ (n ≤ lb - la + 1) ∧ Fr 56 a [(0, v), (6, .int .i64 (la : Int)), (7, .int .i64 ((0 : Nat) : Int)), (8, .int .i64 ((lb - la : Nat) : Int)), (9, .int .i64 ((n : Int) - 1))] ∧ Hp (fun k => v.ownBlock = some k) w0 w [(900, .row RB 5 v dk.toList (fun _ => False))]) (0 + ((lb - la - 1) / 2 + 1)) ?_ ?_
  · exact ⟨(lb - la - 1) / 2 + 1, d, rfl, rfl, rfl, by omega, (((((hF.bare.add hF 9 rfl).add hF 8 rfl).add hF 7 rfl).add hF 6 rfl).add hF 0 rfl), hH.sub _ (sub_cons (sub_nil _) 900 rfl)⟩
  · rintro _ a w ⟨n, dk, rfl, hq0_0, hq0_1, hq0_2, hF, hH⟩
    have hl_dk : dk.toList.length = d.size := by simp only [Array.length_toList]; omega
    refine wp_seq_k fun khK6 hK6 => ?_
    refine wp_seq_k fun khK7 hK7 => ?_
    refine wp_region_lit ?_
    refine l_at hF rfl rfl rfl (x_move (hF.tmp 9 rfl)) ?_; clear hF; intro a hF
    refine l_at hF rfl rfl rfl (x_geq (hF.tmp 18 rfl) rfl) ?_; clear hF; intro a hF
    refine wpList_nil ?_
    refine hK7 _ _ ?_
    refine wp_cond_split (hF.tmp 19 rfl) (fun hc19 => ?_) (fun hc19 => ?_)
    · have hk19_1 := hc19; try simp only [Bool.or_eq_true, Bool.and_eq_true, Bool.or_eq_false_iff, Bool.and_eq_false_iff, Bool.not_eq_true', Bool.not_eq_false', decide_eq_true_eq, decide_eq_false_iff_not, Bool.not_true, Bool.not_false] at hc19
      rw [show ((n : Int) - 1) = ((n - 1 : Nat) : Int) from by omega] at hF
      refine wp_skip ?_
      refine hK6 _ _ ?_
      refine wp_seq_k fun khK8 hK8 => ?_
      refine wp_block ?_
      refine wp_region_lit ?_
      refine l_at hF rfl rfl rfl (x_move (hF.tmp 0 rfl)) ?_; clear hF; intro a hF
      refine l_at hF rfl rfl rfl (x_move (hF.tmp 9 rfl)) ?_; clear hF; intro a hF
      refine l_at hF rfl rfl rfl (x_move (hF.tmp 8 rfl)) ?_; clear hF; intro a hF
      refine l_at hF rfl rfl rfl (x_move (hF.tmp 6 rfl)) ?_; clear hF; intro a hF
      refine wpList_plain rfl fun K hK => ?_
      refine w_call hF (x_enter Try.func56 (by kernel_rfl) rfl (by simp only [List.map_toArray, List.map_cons, List.map_nil, hF.tmp 22 rfl, hF.tmp 23 rfl, hF.tmp 24 rfl, hF.tmp 25 rfl] <;> rfl)) (sift_calls _ (hH.row 900 rfl) (root := n - 1) (hi := lb - la) (first := la) (by omega) (by omega) (by omega)) rfl rfl ?_
      rintro _ w ⟨rfl, hm_, hr_⟩; refine ⟨_, rfl, ?_⟩; clear hF; intro a hF; have hH := hH.rowSame 900 rfl hm_ hr_ rfl
      refine hK _ _ ?_; clear hK K
      refine wpList_nil ?_
      refine hK8 _ _ ?_
      refine wp_region_lit ?_
      refine l_at hF rfl rfl rfl (x_move (hF.tmp 9 rfl)) ?_; clear hF; intro a hF
      refine l_at hF rfl rfl rfl (x_sub (hF.tmp 20 rfl) rfl (w64 (by omega) (by omega))) ?_; clear hF; intro a hF
      refine l_at hF rfl rfl rfl (x_assign (hF.tmp 21 rfl)) ?_; clear hF; intro a hF
      refine wpList_nil ?_
      exact ⟨_, by omega, ⟨n - 1, (siftDown ltInt (lb - la) la (n - 1) dk), rfl, (by rw [siftDown_size]; exact hq0_0), (by rw [hb_step (by omega)]; exact hq0_1), by omega, (((((hF.bare.add hF 9 rfl).add hF 8 rfl).add hF 7 rfl).add hF 6 rfl).add hF 0 rfl), hH.sub _ (sub_cons (sub_nil _) 900 rfl)⟩⟩
    · have hk19_2 := hc19; try simp only [Bool.or_eq_true, Bool.and_eq_true, Bool.or_eq_false_iff, Bool.and_eq_false_iff, Bool.not_eq_true', Bool.not_eq_false', decide_eq_true_eq, decide_eq_false_iff_not, Bool.not_true, Bool.not_false] at hc19
      refine wp_exit ?_
      refine hK4 _ _ ?_
      refine wp_seq_k fun khK9 hK9 => ?_
      refine wp_region_lit ?_
      refine l_at hF rfl rfl rfl (x_move (hF.tmp 8 rfl)) ?_; clear hF; intro a hF
      refine l_at hF rfl rfl rfl (x_sub (hF.tmp 27 rfl) rfl (w64 (by omega) (by omega))) ?_; clear hF; intro a hF
      refine l_at hF rfl rfl rfl (x_assign (hF.tmp 28 rfl)) ?_; clear hF; intro a hF
      refine wpList_nil ?_
      refine hK9 _ _ ?_
      refine wp_block ?_
      refine wp_loop_ghost (fun n_ a w => ∃ m : Nat, ∃ dp : Array Int, n_ = 0 + m ∧ (dp.size = d.size) ∧ (heapPop ltInt la m dp = heapPop ltInt la (lb - la) dk) ∧ (m ≤ lb - la) ∧ Fr 56 a [(0, v), (6, .int .i64 (la : Int)), (7, .int .i64 ((0 : Nat) : Int)), (10, .int .i64 ((m : Int) - 1))] ∧ Hp (fun k => v.ownBlock = some k) w0 w [(900, .row RB 5 v dp.toList (fun _ => False))]) (0 + (lb - la)) ?_ ?_
      · exact ⟨lb - la, dk, rfl, by omega, rfl, by omega, ((((hF.bare.add hF 10 rfl).add hF 7 rfl).add hF 6 rfl).add hF 0 rfl), hH.sub _ (sub_cons (sub_nil _) 900 rfl)⟩
      · rintro _ a w ⟨m, dp, rfl, hq2_0, hq2_1, hq2_2, hF, hH⟩
        have hl_dp : dp.toList.length = d.size := by simp only [Array.length_toList]; omega
        refine wp_seq_k fun khK10 hK10 => ?_
        refine wp_seq_k fun khK11 hK11 => ?_
        refine wp_region_lit ?_
        refine l_at hF rfl rfl rfl (x_move (hF.tmp 10 rfl)) ?_; clear hF; intro a hF
        refine l_at hF rfl rfl rfl (x_geq (hF.tmp 29 rfl) rfl) ?_; clear hF; intro a hF
        refine wpList_nil ?_
        refine hK11 _ _ ?_
        refine wp_cond_split (hF.tmp 30 rfl) (fun hc30 => ?_) (fun hc30 => ?_)
        · have hk30_3 := hc30; try simp only [Bool.or_eq_true, Bool.and_eq_true, Bool.or_eq_false_iff, Bool.and_eq_false_iff, Bool.not_eq_true', Bool.not_eq_false', decide_eq_true_eq, decide_eq_false_iff_not, Bool.not_true, Bool.not_false] at hc30
          rw [show ((m : Int) - 1) = ((m - 1 : Nat) : Int) from by omega] at hF
          refine wp_skip ?_
          refine hK10 _ _ ?_
          refine wp_seq_k fun khK12 hK12 => ?_
          refine wp_block ?_
          refine wp_seq_k fun khK13 hK13 => ?_
          have hJr10 : ∀ a w, Fr 56 a [(0, v), (6, .int .i64 (la : Int)), (7, .int .i64 ((0 : Nat) : Int)), (10, .int .i64 ((m - 1 : Nat) : Int))] → Hp (fun k => v.ownBlock = some k) w0 w [(900, .row RB 5 v (swp dp la (la + (m - 1))).toList (fun _ => False))] → khK13 a w := by
            intro a w  hF hH
            refine hK13 a w ?_
            refine wp_region_lit ?_
            refine l_at hF rfl rfl rfl (x_move (hF.tmp 0 rfl)) ?_; clear hF; intro a hF
            refine l_at hF rfl rfl rfl (x_move (hF.tmp 7 rfl)) ?_; clear hF; intro a hF
            refine l_at hF rfl rfl rfl (x_move (hF.tmp 10 rfl)) ?_; clear hF; intro a hF
            refine l_at hF rfl rfl rfl (x_move (hF.tmp 6 rfl)) ?_; clear hF; intro a hF
            refine wpList_plain rfl fun K hK => ?_
            refine w_call hF (x_enter Try.func56 (by kernel_rfl) rfl (by simp only [List.map_toArray, List.map_cons, List.map_nil, hF.tmp 51 rfl, hF.tmp 52 rfl, hF.tmp 53 rfl, hF.tmp 54 rfl] <;> rfl)) (sift_calls _ (hH.row 900 rfl) (root := 0) (hi := m - 1) (first := la) (by rw [Sx.swp_size]; omega) (by omega) (by rw [Sx.swp_size]; omega)) rfl rfl ?_
            rintro _ w ⟨rfl, hm_, hr_⟩; refine ⟨_, rfl, ?_⟩; clear hF; intro a hF; have hH := hH.rowSame 900 rfl hm_ hr_ rfl
            refine hK _ _ ?_; clear hK K
            refine wpList_nil ?_
            refine hK12 _ _ ?_
            refine wp_region_lit ?_
            refine l_at hF rfl rfl rfl (x_move (hF.tmp 10 rfl)) ?_; clear hF; intro a hF
            refine l_at hF rfl rfl rfl (x_sub (hF.tmp 31 rfl) rfl (w64 (by omega) (by omega))) ?_; clear hF; intro a hF
            refine l_at hF rfl rfl rfl (x_assign (hF.tmp 32 rfl)) ?_; clear hF; intro a hF
            refine wpList_nil ?_
            exact ⟨_, by omega, ⟨m - 1, (siftDown ltInt (m - 1) la 0 (swp dp la (la + (m - 1)))), rfl, (by rw [siftDown_size, Sx.swp_size]; exact hq2_0), (by rw [hp_step (by omega)]; exact hq2_1), by omega, ((((hF.bare.add hF 10 rfl).add hF 7 rfl).add hF 6 rfl).add hF 0 rfl), hH.sub _ (sub_cons (sub_nil _) 900 rfl)⟩⟩
          refine r_start [] (by kernel_rfl) hH fun hH => ?_
          have hS : SL [] _ := SL.of hH (sub_nil _)
          refine r_take 0 hF rfl rfl rfl (by kernel_rfl) (by kernel_rfl) (by kernel_rfl) (fun _ _ _ h => h) rfl hS (fun w hS => x_move (hF.tmp 0 rfl)) rfl ?_; clear hF; intro a hF
          refine r_take 1 hF rfl rfl rfl (by kernel_rfl) (by kernel_rfl) (by kernel_rfl) (fun _ _ _ h => h) rfl hS (fun w hS => x_move (hF.tmp 6 rfl)) rfl ?_; clear hF; intro a hF
          refine r_take 2 hF rfl rfl rfl (by kernel_rfl) (by kernel_rfl) (by kernel_rfl) (fun _ _ _ h => h) rfl hS (fun w hS => x_move (hF.tmp 0 rfl)) rfl ?_; clear hF; intro a hF
          refine r_take 3 hF rfl rfl rfl (by kernel_rfl) (by kernel_rfl) (by kernel_rfl) (fun _ _ _ h => h) rfl hS (fun w hS => x_move (hF.tmp 6 rfl)) rfl ?_; clear hF; intro a hF
          refine r_take 4 hF rfl rfl rfl (by kernel_rfl) (by kernel_rfl) (by kernel_rfl) (fun _ _ _ h => h) rfl hS (fun w hS => x_move (hF.tmp 10 rfl)) rfl ?_; clear hF; intro a hF
          refine r_take 5 hF rfl rfl rfl (by kernel_rfl) (by kernel_rfl) (by kernel_rfl) (fun _ _ _ h => h) rfl hS (fun w hS => x_add (hF.tmp 36 rfl) (hF.tmp 37 rfl) (show IntKind.i64.wrap _ = ((la + (m - 1) : Nat) : Int) from by rw [w64 (by omega) (by omega)] <;> omega)) rfl ?_; clear hF; intro a hF
          refine r_take 6 hF rfl rfl rfl (by kernel_rfl) (by kernel_rfl) (by kernel_rfl) (fun _ _ _ h => h) rfl hS (fun w hS => x_move (hF.tmp 0 rfl)) rfl ?_; clear hF; intro a hF
          refine r_take 7 hF rfl rfl rfl (by kernel_rfl) (by kernel_rfl) (by kernel_rfl) (fun _ _ _ h => h) rfl hS (fun w hS => x_move (hF.tmp 6 rfl)) rfl ?_; clear hF; intro a hF
          refine r_take 8 hF rfl rfl rfl (by kernel_rfl) (by kernel_rfl) (by kernel_rfl) (fun _ _ _ h => h) rfl hS (fun w hS => x_move (hF.tmp 10 rfl)) rfl ?_; clear hF; intro a hF
          refine r_take 9 hF rfl rfl rfl (by kernel_rfl) (by kernel_rfl) (by kernel_rfl) (fun _ _ _ h => h) rfl hS (fun w hS => x_add (hF.tmp 40 rfl) (hF.tmp 41 rfl) (show IntKind.i64.wrap _ = ((la + (m - 1) : Nat) : Int) from by rw [w64 (by omega) (by omega)] <;> omega)) rfl ?_; clear hF; intro a hF
          refine r_take 10 hF rfl rfl rfl (by kernel_rfl) (by kernel_rfl) (by kernel_rfl) (fun _ _ _ h => h) rfl hS (fun w hS => x_iaddrV Try.underlying72 ty5 (hH.row 900 rfl) (hF.tmp 39 rfl) (hF.tmp 42 rfl) (by omega) (by omega) _) rfl ?_; clear hF; intro a hF
          refine r_take 12 hF rfl rfl rfl (by kernel_rfl) (by kernel_rfl) (by kernel_rfl) (fun _ _ _ h => h) rfl hS (fun w hS => x_move (hF.tmp 0 rfl)) rfl ?_; clear hF; intro a hF
          refine r_take 13 hF rfl rfl rfl (by kernel_rfl) (by kernel_rfl) (by kernel_rfl) (fun _ _ _ h => h) rfl hS (fun w hS => x_move (hF.tmp 6 rfl)) rfl ?_; clear hF; intro a hF
          refine r_take 14 hF rfl rfl rfl (by kernel_rfl) (by kernel_rfl) (by kernel_rfl) (fun _ _ _ h => h) rfl hS (fun w hS => x_iaddrV Try.underlying72 ty5 (hH.row 900 rfl) (hF.tmp 45 rfl) (hF.tmp 46 rfl) (by omega) (by omega) _) rfl ?_; clear hF; intro a hF
          refine r_do2 11 15 rfl rfl (by kernel_rfl) rfl rfl rfl rfl ?_ ?_
          ·
            refine w_at hF (x_load1 ty5 (hF.tmp 43 rfl) ((Row.rdV (hH.row 900 rfl)).cellA (gi_some (xs := dp.toList) (i := ((la + (m - 1) : Nat) : Int)) (by omega) (by omega)))) rfl rfl ?_
            clear hF; intro a hF
            clear hS; have hS : SL _ _ := SL.of hH (sub_nil _); refine ⟨hS, ?_⟩
            refine r_do 15 rfl (by kernel_rfl) rfl rfl ?_
            refine w_at hF (x_load1 ty5 (hF.tmp 47 rfl) ((Row.rdV (hH.row 900 rfl)).cellA (gi_some (xs := dp.toList) (i := (la : Int)) (by omega) (by omega)))) rfl rfl ?_
            clear hF; intro a hF
            clear hS; have hS : SL _ _ := SL.of hH (sub_nil _); refine ⟨hS, ?_⟩
            refine r_take 16 hF rfl rfl rfl (by kernel_rfl) (by kernel_rfl) (by kernel_rfl) (fun _ _ _ h => h) rfl hS (fun w hS => x_iaddrV Try.underlying72 ty5 (hH.row 900 rfl) (hF.tmp 33 rfl) (hF.tmp 34 rfl) (by omega) (by omega) _) rfl ?_; clear hF; intro a hF
            refine r_do 17 rfl (by kernel_rfl) rfl rfl ?_
            refine w_setV (xs := dp.toList) 900 la (gi dp.toList (((la + (m - 1)) : Nat) : Int)) hH ty5 rfl (by first | omega | (simp only [List.length_set]; omega)) (hF.tmp 49 rfl) (hF.tmp 44 rfl) ?_
            clear hH; intro w hH
            clear hS; have hS : SL _ _ := SL.of hH (sub_nil _); refine ⟨hS, ?_⟩
            refine r_take 18 hF rfl rfl rfl (by kernel_rfl) (by kernel_rfl) (by kernel_rfl) (fun _ _ _ h => h) rfl hS (fun w hS => x_iaddrV Try.underlying72 ty5 (hH.row 900 rfl) (hF.tmp 35 rfl) (hF.tmp 38 rfl) (by omega) (by first | omega | (simp only [List.length_set]; omega)) _) rfl ?_; clear hF; intro a hF
            refine r_do 19 rfl (by kernel_rfl) rfl rfl ?_
            refine w_setV (xs := (dp.toList.set la (gi dp.toList (((la + (m - 1)) : Nat) : Int)))) 900 (la + (m - 1)) (gi dp.toList ((la : Nat) : Int)) hH ty5 rfl (by first | omega | (simp only [List.length_set]; omega)) (hF.tmp 50 rfl) (hF.tmp 48 rfl) ?_
            clear hH; intro w hH
            clear hS; have hS : SL _ _ := SL.of hH (sub_nil _); refine ⟨hS, ?_⟩
            have hH := hH.relab 900 (Y := .row RB 5 v (swp dp la (la + (m - 1))).toList (fun _ => False)) rfl (by rw [swp_list])
            refine r_end (by kernel_rfl) ?_; clear hS
            exact hJr10 _ _  ((((hF.bare.add hF 10 rfl).add hF 7 rfl).add hF 6 rfl).add hF 0 rfl) (hH.sub _ (sub_cons (sub_nil _) 900 rfl))
          ·
            refine w_at hF (x_load1 ty5 (hF.tmp 47 rfl) ((Row.rdV (hH.row 900 rfl)).cellA (gi_some (xs := dp.toList) (i := (la : Int)) (by omega) (by omega)))) rfl rfl ?_
            clear hF; intro a hF
            clear hS; have hS : SL _ _ := SL.of hH (sub_nil _); refine ⟨hS, ?_⟩
            refine r_do 11 rfl (by kernel_rfl) rfl rfl ?_
            refine w_at hF (x_load1 ty5 (hF.tmp 43 rfl) ((Row.rdV (hH.row 900 rfl)).cellA (gi_some (xs := dp.toList) (i := ((la + (m - 1) : Nat) : Int)) (by omega) (by omega)))) rfl rfl ?_
            clear hF; intro a hF
            clear hS; have hS : SL _ _ := SL.of hH (sub_nil _); refine ⟨hS, ?_⟩
            refine r_take 16 hF rfl rfl rfl (by kernel_rfl) (by kernel_rfl) (by kernel_rfl) (fun _ _ _ h => h) rfl hS (fun w hS => x_iaddrV Try.underlying72 ty5 (hH.row 900 rfl) (hF.tmp 33 rfl) (hF.tmp 34 rfl) (by omega) (by omega) _) rfl ?_; clear hF; intro a hF
            refine r_do 17 rfl (by kernel_rfl) rfl rfl ?_
            refine w_setV (xs := dp.toList) 900 la (gi dp.toList (((la + (m - 1)) : Nat) : Int)) hH ty5 rfl (by first | omega | (simp only [List.length_set]; omega)) (hF.tmp 49 rfl) (hF.tmp 44 rfl) ?_
            clear hH; intro w hH
            clear hS; have hS : SL _ _ := SL.of hH (sub_nil _); refine ⟨hS, ?_⟩
            refine r_take 18 hF rfl rfl rfl (by kernel_rfl) (by kernel_rfl) (by kernel_rfl) (fun _ _ _ h => h) rfl hS (fun w hS => x_iaddrV Try.underlying72 ty5 (hH.row 900 rfl) (hF.tmp 35 rfl) (hF.tmp 38 rfl) (by omega) (by first | omega | (simp only [List.length_set]; omega)) _) rfl ?_; clear hF; intro a hF
            refine r_do 19 rfl (by kernel_rfl) rfl rfl ?_
            refine w_setV (xs := (dp.toList.set la (gi dp.toList (((la + (m - 1)) : Nat) : Int)))) 900 (la + (m - 1)) (gi dp.toList ((la : Nat) : Int)) hH ty5 rfl (by first | omega | (simp only [List.length_set]; omega)) (hF.tmp 50 rfl) (hF.tmp 48 rfl) ?_
            clear hH; intro w hH
            clear hS; have hS : SL _ _ := SL.of hH (sub_nil _); refine ⟨hS, ?_⟩
            have hH := hH.relab 900 (Y := .row RB 5 v (swp dp la (la + (m - 1))).toList (fun _ => False)) rfl (by rw [swp_list])
            refine r_end (by kernel_rfl) ?_; clear hS
            exact hJr10 _ _  ((((hF.bare.add hF 10 rfl).add hF 7 rfl).add hF 6 rfl).add hF 0 rfl) (hH.sub _ (sub_cons (sub_nil _) 900 rfl))
        · have hk30_4 := hc30; try simp only [Bool.or_eq_true, Bool.and_eq_true, Bool.or_eq_false_iff, Bool.and_eq_false_iff, Bool.not_eq_true', Bool.not_eq_false', decide_eq_true_eq, decide_eq_false_iff_not, Bool.not_true, Bool.not_false] at hc30
          refine wp_exit ?_
          try simp only [Exit.then, Exit.inBlock]
          try simp only [if_true]
          try simp only [Nat.reduceEqDiff, reduceIte]
          have hn0 : n = 0 := by omega
          have hm0 : m = 0 := by omega
          subst hn0; subst hm0
          have hfin := heapSort_a hab hq0_1 hq2_1
          exact fin_end hF (res0 rfl) ⟨rfl, hH.mods, by rw [← hfin]; exact hH.row 900 rfl⟩

end Go.Proofs.Ytlcnoibjhmflnaa.Act
