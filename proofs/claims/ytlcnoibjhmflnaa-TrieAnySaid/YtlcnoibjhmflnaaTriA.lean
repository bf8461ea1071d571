/- The trie, walked. -/
import Derived.Test.YtlcnoibjhmflnaaProg
import Derived.Test.YtlcnoibjhmflnaaTrA
import Derived.Test.YtlcnoibjhmflnaaStr
set_option linter.unusedVariables false
set_option linter.unusedSimpArgs false
namespace Go.Proofs.Ytlcnoibjhmflnaa.Act
open Go.RowKit Go.Proofs.Ytlcnoibjhmflnaa.Sx
theorem ty2 : TyI Try.prog 2 (.int .i64 0) 1 8 false := ⟨by kernel_rfl, _, Try.underlying2, rfl⟩
theorem ty3 : TyI Try.prog 3 (.int .i64 0) 1 8 false := ⟨by kernel_rfl, _, Try.underlying3, rfl⟩
theorem ty5 : TyI Try.prog 5 (.int .u8 0) 1 1 false := ⟨by kernel_rfl, _, Try.underlying5, rfl⟩
theorem ty9 : TyI Try.prog 9 (.string (strOfNums [])) 1 16 false := ⟨by kernel_rfl, _, Try.underlying9, rfl⟩
theorem ty30 : TyI Try.prog 30 (.agg #[.string (strOfNums []), .string (strOfNums [])]) 2 32 true := ⟨by kernel_rfl, _, Try.underlying30, rfl⟩
theorem ty56 : TyI Try.prog 56 (.pointer none) 1 8 false := ⟨by kernel_rfl, _, Try.underlying56, rfl⟩
theorem ty58 : TyI Try.prog 58 (.agg #[.pointer none, .int .i64 0, .int .i64 0]) 3 24 true := ⟨by kernel_rfl, _, Try.underlying58, rfl⟩
theorem ty59 : TyI Try.prog 59 (.pointer none) 1 8 false := ⟨by kernel_rfl, _, Try.underlying59, rfl⟩
theorem ty60 : TyI Try.prog 60 (.map none) 1 8 false := ⟨by kernel_rfl, _, Try.underlying60, rfl⟩
theorem ty62 : TyI Try.prog 62 (.agg #[.string (strOfNums []), .pointer none, .map none]) 3 32 true := ⟨by kernel_rfl, _, Try.underlying62, rfl⟩
set_option maxRecDepth 100000 in
set_option maxHeartbeats 1000000 in
theorem common_calls (w0 : World) {xs : List Int} (hxs : Byte xs) {ys : List Int} (hys : Byte ys) (hla : xs.length ≤ 9223372036854775807) (hlb : ys.length ≤ 9223372036854775807) : Calls Try.prog 28 #[.string (strOfNums xs), .string (strOfNums ys)] w0 fun e w' => e = .returned (.int .i64 ((lcp xs ys).length : Int)) ∧ Mods (fun _ => False) w0 w' := by
  refine calls_of_wp Try.func28 rfl ?_
  have hF := Fr.enter #[.string (strOfNums xs), .string (strOfNums ys)] 28 (slotsOf [.string (strOfNums xs), .string (strOfNums ys)] 0) (Nat.le_of_ble_eq_true rfl) (fun i v h => by have h2 := (get_slotsOf _ 0 i v h).2; simpa only [List.getElem?_toArray, Nat.sub_zero] using h2)
  have hH := Hp.nil (fun _ => False) w0
  rw [Try.ntmps28]
  revert hF; generalize (⟨(#[.string (strOfNums xs), .string (strOfNums ys)] : Array Value) ++ Array.replicate (28 - (#[.string (strOfNums xs), .string (strOfNums ys)] : Array Value).size) undef, []⟩ : Act) = a; intro hF
  refine wp_seq_k fun khK1 hK1 => ?_
  refine wp_region_lit ?_
  refine l_at hF rfl rfl rfl (x_assign rfl) ?_; clear hF; intro a hF
  refine wpList_nil ?_
  refine hK1 _ _ ?_
  refine wp_seq_k fun khK2 hK2 => ?_
  refine wp_region_lit ?_
  refine l_at hF rfl rfl rfl (x_assign rfl) ?_; clear hF; intro a hF
  refine wpList_nil ?_
  refine hK2 _ _ ?_
  refine wp_seq_k fun khK3 hK3 => ?_
  refine wp_block ?_
  refine wp_loop_ghost (fun n_ a w => ∃ n : Nat, n_ = xs.length - n ∧ (n ≤ xs.length) ∧ (n ≤ ys.length) ∧ (n ≤ (lcp xs ys).length) ∧ Fr 28 a [(0, .string (strOfNums xs)), (1, .string (strOfNums ys)), (5, .int .i64 (n : Int))] ∧ Hp (fun _ => False) w0 w []) (xs.length) ?_ ?_
  · exact ⟨0, rfl, by omega, by omega, by omega, (((hF.bare.add hF 5 rfl).add hF 1 rfl).add hF 0 rfl), hH.sub _ (sub_nil _)⟩
  · rintro _ a w ⟨n, rfl, hq0_0, hq0_1, hq0_2, hF, hH⟩
    refine wp_seq_k fun khK4 hK4 => ?_
    refine wp_seq_k fun khK5 hK5 => ?_
    refine r_start [] (by kernel_rfl) hH fun hH => ?_
    have hS : SL [] _ := SL.of hH (sub_nil _)
    refine r_take 0 hF rfl rfl rfl (by kernel_rfl) (by kernel_rfl) (by kernel_rfl) (fun _ _ _ h => h) rfl hS (fun w hS => x_move (hF.tmp 5 rfl)) rfl ?_; clear hF; intro a hF
    refine r_take 1 hF rfl rfl rfl (by kernel_rfl) (by kernel_rfl) (by kernel_rfl) (fun _ _ _ h => h) rfl hS (fun w hS => x_move (hF.tmp 0 rfl)) rfl ?_; clear hF; intro a hF
    refine r_take 2 hF rfl rfl rfl (by kernel_rfl) (by kernel_rfl) (by kernel_rfl) (fun _ _ _ h => h) rfl hS (fun w hS => x_len_sn (xs := xs) Try.underlying9 (hF.tmp 7 rfl)) rfl ?_; clear hF; intro a hF
    refine r_take 3 hF rfl rfl rfl (by kernel_rfl) (by kernel_rfl) (by kernel_rfl) (fun _ _ _ h => h) rfl hS (fun w hS => x_lss (hF.tmp 6 rfl) (hF.tmp 8 rfl)) rfl ?_; clear hF; intro a hF
    refine r_take 4 hF rfl rfl rfl (by kernel_rfl) (by kernel_rfl) (by kernel_rfl) (fun _ _ _ h => h) rfl hS (fun w hS => x_move (hF.tmp 9 rfl)) rfl ?_; clear hF; intro a hF
    refine split_bool hF 10 rfl (fun hb10 => ?_) (fun hb10 => ?_)
    · have hc10 := hb10; try simp only [Bool.or_eq_true, Bool.and_eq_true, Bool.or_eq_false_iff, Bool.and_eq_false_iff, Bool.not_eq_true', Bool.not_eq_false', decide_eq_true_eq, decide_eq_false_iff_not, Bool.not_true, Bool.not_false] at hc10
      refine r_take 5 hF rfl rfl rfl (by kernel_rfl) (by kernel_rfl) (by kernel_rfl) (fun _ _ _ h => h) ((wanted_of hF rfl rfl rfl rfl).trans (by rw [hb10]; rfl)) hS (fun w hS => x_move (hF.tmp 5 rfl)) rfl ?_; clear hF; intro a hF
      refine r_take 6 hF rfl rfl rfl (by kernel_rfl) (by kernel_rfl) (by kernel_rfl) (fun _ _ _ h => h) ((wanted_of hF rfl rfl rfl rfl).trans (by rw [hb10]; rfl)) hS (fun w hS => x_move (hF.tmp 1 rfl)) rfl ?_; clear hF; intro a hF
      refine r_take 7 hF rfl rfl rfl (by kernel_rfl) (by kernel_rfl) (by kernel_rfl) (fun _ _ _ h => h) ((wanted_of hF rfl rfl rfl rfl).trans (by rw [hb10]; rfl)) hS (fun w hS => x_len_sn (xs := ys) Try.underlying9 (hF.tmp 12 rfl)) rfl ?_; clear hF; intro a hF
      refine r_take 8 hF rfl rfl rfl (by kernel_rfl) (by kernel_rfl) (by kernel_rfl) (fun _ _ _ h => h) ((wanted_of hF rfl rfl rfl rfl).trans (by rw [hb10]; rfl)) hS (fun w hS => x_lss (hF.tmp 11 rfl) (hF.tmp 13 rfl)) rfl ?_; clear hF; intro a hF
      refine r_take 9 hF rfl rfl rfl (by kernel_rfl) (by kernel_rfl) (by kernel_rfl) (fun _ _ _ h => h) rfl hS (fun w hS => x_pickT (hF.tmp 10 rfl) hb10 (hF.tmp 14 rfl)) rfl ?_; clear hF; intro a hF
      refine r_take 10 hF rfl rfl rfl (by kernel_rfl) (by kernel_rfl) (by kernel_rfl) (fun _ _ _ h => h) rfl hS (fun w hS => x_move (hF.tmp 15 rfl)) rfl ?_; clear hF; intro a hF
      refine split_bool hF 16 rfl (fun hb16 => ?_) (fun hb16 => ?_)
      · have hc16 := hb16; try simp only [Bool.or_eq_true, Bool.and_eq_true, Bool.or_eq_false_iff, Bool.and_eq_false_iff, Bool.not_eq_true', Bool.not_eq_false', decide_eq_true_eq, decide_eq_false_iff_not, Bool.not_true, Bool.not_false] at hc16
        refine r_take 11 hF rfl rfl rfl (by kernel_rfl) (by kernel_rfl) (by kernel_rfl) (fun _ _ _ h => h) ((wanted_of hF rfl rfl rfl rfl).trans (by rw [hb16]; rfl)) hS (fun w hS => x_move (hF.tmp 0 rfl)) rfl ?_; clear hF; intro a hF
        refine r_take 12 hF rfl rfl rfl (by kernel_rfl) (by kernel_rfl) (by kernel_rfl) (fun _ _ _ h => h) ((wanted_of hF rfl rfl rfl rfl).trans (by rw [hb16]; rfl)) hS (fun w hS => x_move (hF.tmp 5 rfl)) rfl ?_; clear hF; intro a hF
        refine r_take 13 hF rfl rfl rfl (by kernel_rfl) (by kernel_rfl) (by kernel_rfl) (fun _ _ _ h => h) ((wanted_of hF rfl rfl rfl rfl).trans (by rw [hb16]; rfl)) hS (fun w hS => x_idxS (xs := xs) Try.underlying9 (hF.tmp 17 rfl) (hF.tmp 18 rfl) (by assumption) (by omega) (by omega)) rfl ?_; clear hF; intro a hF
        refine r_take 14 hF rfl rfl rfl (by kernel_rfl) (by kernel_rfl) (by kernel_rfl) (fun _ _ _ h => h) ((wanted_of hF rfl rfl rfl rfl).trans (by rw [hb16]; rfl)) hS (fun w hS => x_move (hF.tmp 1 rfl)) rfl ?_; clear hF; intro a hF
        refine r_take 15 hF rfl rfl rfl (by kernel_rfl) (by kernel_rfl) (by kernel_rfl) (fun _ _ _ h => h) ((wanted_of hF rfl rfl rfl rfl).trans (by rw [hb16]; rfl)) hS (fun w hS => x_move (hF.tmp 5 rfl)) rfl ?_; clear hF; intro a hF
        refine r_take 16 hF rfl rfl rfl (by kernel_rfl) (by kernel_rfl) (by kernel_rfl) (fun _ _ _ h => h) ((wanted_of hF rfl rfl rfl rfl).trans (by rw [hb16]; rfl)) hS (fun w hS => x_idxS (xs := ys) Try.underlying9 (hF.tmp 20 rfl) (hF.tmp 21 rfl) (by assumption) (by omega) (by omega)) rfl ?_; clear hF; intro a hF
        refine r_take 17 hF rfl rfl rfl (by kernel_rfl) (by kernel_rfl) (by kernel_rfl) (fun _ _ _ h => h) ((wanted_of hF rfl rfl rfl rfl).trans (by rw [hb16]; rfl)) hS (fun w hS => x_eql (hF.tmp 19 rfl) (hF.tmp 22 rfl)) rfl ?_; clear hF; intro a hF
        refine r_take 18 hF rfl rfl rfl (by kernel_rfl) (by kernel_rfl) (by kernel_rfl) (fun _ _ _ h => h) rfl hS (fun w hS => x_pickT (hF.tmp 16 rfl) hb16 (hF.tmp 23 rfl)) rfl ?_; clear hF; intro a hF
        refine r_end (by kernel_rfl) ?_; clear hS
        refine hK5 _ _ ?_
        refine wp_cond_split (hF.tmp 24 rfl) (fun hc24 => ?_) (fun hc24 => ?_)
        · have hk24_1 := hc24; try simp only [Bool.or_eq_true, Bool.and_eq_true, Bool.or_eq_false_iff, Bool.and_eq_false_iff, Bool.not_eq_true', Bool.not_eq_false', decide_eq_true_eq, decide_eq_false_iff_not, Bool.not_true, Bool.not_false] at hc24
          refine wp_skip ?_
          refine hK4 _ _ ?_
          refine wp_block ?_
          refine wp_region_lit ?_
          refine l_at hF rfl rfl rfl (x_move (hF.tmp 5 rfl)) ?_; clear hF; intro a hF
          refine l_at hF rfl rfl rfl (x_add (hF.tmp 25 rfl) rfl (w64 (by omega) (by omega))) ?_; clear hF; intro a hF
          refine l_at hF rfl rfl rfl (x_assign (hF.tmp 26 rfl)) ?_; clear hF; intro a hF
          refine wpList_nil ?_
          exact ⟨_, by omega, ⟨n + 1, rfl, by omega, by omega, lcp_step hq0_2 (by omega) (by omega) (by assumption), (((hF.bare.add hF 5 rfl).add hF 1 rfl).add hF 0 rfl), hH.sub _ (sub_nil _)⟩⟩
        · have hk24_2 := hc24; try simp only [Bool.or_eq_true, Bool.and_eq_true, Bool.or_eq_false_iff, Bool.and_eq_false_iff, Bool.not_eq_true', Bool.not_eq_false', decide_eq_true_eq, decide_eq_false_iff_not, Bool.not_true, Bool.not_false] at hc24
          refine wp_exit ?_
          refine hK3 _ _ ?_
          refine wp_seq_k fun khK6 hK6 => ?_
          refine wp_region_lit ?_
          refine l_at hF rfl rfl rfl (x_move (hF.tmp 5 rfl)) ?_; clear hF; intro a hF
          refine l_at hF rfl rfl rfl (x_assign (hF.tmp 27 rfl)) ?_; clear hF; intro a hF
          refine wpList_nil ?_
          refine hK6 _ _ ?_
          refine wp_ret ?_
          try simp only [Exit.then, Exit.inBlock]
          have hend : (lcp xs ys).length = n := by first | (have h1 := (lcp_left xs ys).length_le; omega) | (have h1 := (lcp_right xs ys).length_le; omega) | exact lcp_stop hq0_2 (by omega) (by omega) (by assumption)
          exact fin_ret hF (res1 hF rfl rfl) ⟨by rw [hend], hH.mods⟩
      · have hc16 := hb16; try simp only [Bool.or_eq_true, Bool.and_eq_true, Bool.or_eq_false_iff, Bool.and_eq_false_iff, Bool.not_eq_true', Bool.not_eq_false', decide_eq_true_eq, decide_eq_false_iff_not, Bool.not_true, Bool.not_false] at hc16
        refine r_off 11 hF rfl rfl rfl (by kernel_rfl) (by kernel_rfl) (by kernel_rfl) (fun _ _ _ h => h) ((wanted_of hF rfl rfl rfl rfl).trans (by rw [hb16]; rfl)) hS rfl ?_; clear hF; intro a hF
        refine r_off 12 hF rfl rfl rfl (by kernel_rfl) (by kernel_rfl) (by kernel_rfl) (fun _ _ _ h => h) ((wanted_of hF rfl rfl rfl rfl).trans (by rw [hb16]; rfl)) hS rfl ?_; clear hF; intro a hF
        refine r_off 13 hF rfl rfl rfl (by kernel_rfl) (by kernel_rfl) (by kernel_rfl) (fun _ _ _ h => h) ((wanted_of hF rfl rfl rfl rfl).trans (by rw [hb16]; rfl)) hS rfl ?_; clear hF; intro a hF
        refine r_off 14 hF rfl rfl rfl (by kernel_rfl) (by kernel_rfl) (by kernel_rfl) (fun _ _ _ h => h) ((wanted_of hF rfl rfl rfl rfl).trans (by rw [hb16]; rfl)) hS rfl ?_; clear hF; intro a hF
        refine r_off 15 hF rfl rfl rfl (by kernel_rfl) (by kernel_rfl) (by kernel_rfl) (fun _ _ _ h => h) ((wanted_of hF rfl rfl rfl rfl).trans (by rw [hb16]; rfl)) hS rfl ?_; clear hF; intro a hF
        refine r_off 16 hF rfl rfl rfl (by kernel_rfl) (by kernel_rfl) (by kernel_rfl) (fun _ _ _ h => h) ((wanted_of hF rfl rfl rfl rfl).trans (by rw [hb16]; rfl)) hS rfl ?_; clear hF; intro a hF
        refine r_off 17 hF rfl rfl rfl (by kernel_rfl) (by kernel_rfl) (by kernel_rfl) (fun _ _ _ h => h) ((wanted_of hF rfl rfl rfl rfl).trans (by rw [hb16]; rfl)) hS rfl ?_; clear hF; intro a hF
        refine r_take 18 hF rfl rfl rfl (by kernel_rfl) (by kernel_rfl) (by kernel_rfl) (fun _ _ _ h => h) rfl hS (fun w hS => x_pickF (hF.tmp 16 rfl) hb16 rfl) rfl ?_; clear hF; intro a hF
        refine r_end (by kernel_rfl) ?_; clear hS
        refine hK5 _ _ ?_
        refine wp_cond_false (hF.tmp 24 rfl) ?_
        refine wp_exit ?_
        refine hK3 _ _ ?_
        refine wp_seq_k fun khK7 hK7 => ?_
        refine wp_region_lit ?_
        refine l_at hF rfl rfl rfl (x_move (hF.tmp 5 rfl)) ?_; clear hF; intro a hF
        refine l_at hF rfl rfl rfl (x_assign (hF.tmp 27 rfl)) ?_; clear hF; intro a hF
        refine wpList_nil ?_
        refine hK7 _ _ ?_
        refine wp_ret ?_
        try simp only [Exit.then, Exit.inBlock]
        have hend : (lcp xs ys).length = n := by first | (have h1 := (lcp_left xs ys).length_le; omega) | (have h1 := (lcp_right xs ys).length_le; omega) | exact lcp_stop hq0_2 (by omega) (by omega) (by assumption)
        exact fin_ret hF (res1 hF rfl rfl) ⟨by rw [hend], hH.mods⟩
    · have hc10 := hb10; try simp only [Bool.or_eq_true, Bool.and_eq_true, Bool.or_eq_false_iff, Bool.and_eq_false_iff, Bool.not_eq_true', Bool.not_eq_false', decide_eq_true_eq, decide_eq_false_iff_not, Bool.not_true, Bool.not_false] at hc10
      refine r_off 5 hF rfl rfl rfl (by kernel_rfl) (by kernel_rfl) (by kernel_rfl) (fun _ _ _ h => h) ((wanted_of hF rfl rfl rfl rfl).trans (by rw [hb10]; rfl)) hS rfl ?_; clear hF; intro a hF
      refine r_off 6 hF rfl rfl rfl (by kernel_rfl) (by kernel_rfl) (by kernel_rfl) (fun _ _ _ h => h) ((wanted_of hF rfl rfl rfl rfl).trans (by rw [hb10]; rfl)) hS rfl ?_; clear hF; intro a hF
      refine r_off 7 hF rfl rfl rfl (by kernel_rfl) (by kernel_rfl) (by kernel_rfl) (fun _ _ _ h => h) ((wanted_of hF rfl rfl rfl rfl).trans (by rw [hb10]; rfl)) hS rfl ?_; clear hF; intro a hF
      refine r_off 8 hF rfl rfl rfl (by kernel_rfl) (by kernel_rfl) (by kernel_rfl) (fun _ _ _ h => h) ((wanted_of hF rfl rfl rfl rfl).trans (by rw [hb10]; rfl)) hS rfl ?_; clear hF; intro a hF
      refine r_take 9 hF rfl rfl rfl (by kernel_rfl) (by kernel_rfl) (by kernel_rfl) (fun _ _ _ h => h) rfl hS (fun w hS => x_pickF (hF.tmp 10 rfl) hb10 rfl) rfl ?_; clear hF; intro a hF
      refine r_take 10 hF rfl rfl rfl (by kernel_rfl) (by kernel_rfl) (by kernel_rfl) (fun _ _ _ h => h) rfl hS (fun w hS => x_move (hF.tmp 15 rfl)) rfl ?_; clear hF; intro a hF
      refine r_off 11 hF rfl rfl rfl (by kernel_rfl) (by kernel_rfl) (by kernel_rfl) (fun _ _ _ h => h) ((wanted_of hF rfl rfl rfl rfl).trans rfl) hS rfl ?_; clear hF; intro a hF
      refine r_off 12 hF rfl rfl rfl (by kernel_rfl) (by kernel_rfl) (by kernel_rfl) (fun _ _ _ h => h) ((wanted_of hF rfl rfl rfl rfl).trans rfl) hS rfl ?_; clear hF; intro a hF
      refine r_off 13 hF rfl rfl rfl (by kernel_rfl) (by kernel_rfl) (by kernel_rfl) (fun _ _ _ h => h) ((wanted_of hF rfl rfl rfl rfl).trans rfl) hS rfl ?_; clear hF; intro a hF
      refine r_off 14 hF rfl rfl rfl (by kernel_rfl) (by kernel_rfl) (by kernel_rfl) (fun _ _ _ h => h) ((wanted_of hF rfl rfl rfl rfl).trans rfl) hS rfl ?_; clear hF; intro a hF
      refine r_off 15 hF rfl rfl rfl (by kernel_rfl) (by kernel_rfl) (by kernel_rfl) (fun _ _ _ h => h) ((wanted_of hF rfl rfl rfl rfl).trans rfl) hS rfl ?_; clear hF; intro a hF
      refine r_off 16 hF rfl rfl rfl (by kernel_rfl) (by kernel_rfl) (by kernel_rfl) (fun _ _ _ h => h) ((wanted_of hF rfl rfl rfl rfl).trans rfl) hS rfl ?_; clear hF; intro a hF
      refine r_off 17 hF rfl rfl rfl (by kernel_rfl) (by kernel_rfl) (by kernel_rfl) (fun _ _ _ h => h) ((wanted_of hF rfl rfl rfl rfl).trans rfl) hS rfl ?_; clear hF; intro a hF
      refine r_take 18 hF rfl rfl rfl (by kernel_rfl) (by kernel_rfl) (by kernel_rfl) (fun _ _ _ h => h) rfl hS (fun w hS => x_pickF (hF.tmp 16 rfl) rfl rfl) rfl ?_; clear hF; intro a hF
      refine r_end (by kernel_rfl) ?_; clear hS
      refine hK5 _ _ ?_
      refine wp_cond_false (hF.tmp 24 rfl) ?_
      refine wp_exit ?_
      refine hK3 _ _ ?_
      refine wp_seq_k fun khK8 hK8 => ?_
      refine wp_region_lit ?_
      refine l_at hF rfl rfl rfl (x_move (hF.tmp 5 rfl)) ?_; clear hF; intro a hF
      refine l_at hF rfl rfl rfl (x_assign (hF.tmp 27 rfl)) ?_; clear hF; intro a hF
      refine wpList_nil ?_
      refine hK8 _ _ ?_
      refine wp_ret ?_
      try simp only [Exit.then, Exit.inBlock]
      have hend : (lcp xs ys).length = n := by first | (have h1 := (lcp_left xs ys).length_le; omega) | (have h1 := (lcp_right xs ys).length_le; omega) | exact lcp_stop hq0_2 (by omega) (by omega) (by assumption)
      exact fin_ret hF (res1 hF rfl rfl) ⟨by rw [hend], hH.mods⟩

set_option maxRecDepth 100000 in
set_option maxHeartbeats 1000000 in
theorem hasp_calls (w0 : World) {xs : List Int} (hxs : Byte xs) {ys : List Int} (hys : Byte ys) (hla : xs.length ≤ 9223372036854775807) (hlb : ys.length ≤ 9223372036854775807) : Calls Try.prog 38 #[.string (strOfNums xs), .string (strOfNums ys)] w0 fun e w' => e = .returned (.bool (decide (ys <+: xs))) ∧ Mods (fun _ => False) w0 w' := by
  refine calls_of_wp Try.func38 rfl ?_
  have hF := Fr.enter #[.string (strOfNums xs), .string (strOfNums ys)] 18 (slotsOf [.string (strOfNums xs), .string (strOfNums ys)] 0) (Nat.le_of_ble_eq_true rfl) (fun i v h => by have h2 := (get_slotsOf _ 0 i v h).2; simpa only [List.getElem?_toArray, Nat.sub_zero] using h2)
  have hH := Hp.nil (fun _ => False) w0
  rw [Try.ntmps38]
  revert hF; generalize (⟨(#[.string (strOfNums xs), .string (strOfNums ys)] : Array Value) ++ Array.replicate (18 - (#[.string (strOfNums xs), .string (strOfNums ys)] : Array Value).size) undef, []⟩ : Act) = a; intro hF
  refine wp_seq_k fun khK1 hK1 => ?_
  refine wp_region_lit ?_
  refine l_at hF rfl rfl rfl (x_assign rfl) ?_; clear hF; intro a hF
  refine wpList_nil ?_
  refine hK1 _ _ ?_
  refine wp_seq_k fun khK2 hK2 => ?_
  refine wp_region_lit ?_
  refine l_at hF rfl rfl rfl (x_move (hF.tmp 0 rfl)) ?_; clear hF; intro a hF
  refine l_at hF rfl rfl rfl (x_len_sn (xs := xs) Try.underlying9 (hF.tmp 5 rfl)) ?_; clear hF; intro a hF
  refine l_at hF rfl rfl rfl (x_move (hF.tmp 1 rfl)) ?_; clear hF; intro a hF
  refine l_at hF rfl rfl rfl (x_len_sn (xs := ys) Try.underlying9 (hF.tmp 7 rfl)) ?_; clear hF; intro a hF
  refine l_at hF rfl rfl rfl (x_geq (hF.tmp 6 rfl) (hF.tmp 8 rfl)) ?_; clear hF; intro a hF
  refine l_at hF rfl rfl rfl (x_move (hF.tmp 9 rfl)) ?_; clear hF; intro a hF
  refine split_bool hF 10 rfl (fun hb10 => ?_) (fun hb10 => ?_)
  · have hc10 := hb10; try simp only [Bool.or_eq_true, Bool.and_eq_true, Bool.or_eq_false_iff, Bool.and_eq_false_iff, Bool.not_eq_true', Bool.not_eq_false', decide_eq_true_eq, decide_eq_false_iff_not, Bool.not_true, Bool.not_false] at hc10
    refine l_atg hF ((wanted_of hF rfl rfl rfl rfl).trans (by rw [hb10]; rfl)) rfl rfl (x_move (hF.tmp 0 rfl)) ?_; clear hF; intro a hF
    refine l_atg hF ((wanted_of hF rfl rfl rfl rfl).trans (by rw [hb10]; rfl)) rfl rfl (x_move (hF.tmp 1 rfl)) ?_; clear hF; intro a hF
    refine l_atg hF ((wanted_of hF rfl rfl rfl rfl).trans (by rw [hb10]; rfl)) rfl rfl (x_len_sn (xs := ys) Try.underlying9 (hF.tmp 12 rfl)) ?_; clear hF; intro a hF
    refine l_atg hF ((wanted_of hF rfl rfl rfl rfl).trans (by rw [hb10]; rfl)) rfl rfl (x_sliceS (xs := xs) Try.underlying9 (hF.tmp 11 rfl) (hF.tmp 13 rfl) (by omega) (by omega)) ?_; clear hF; intro a hF
    refine l_atg hF ((wanted_of hF rfl rfl rfl rfl).trans (by rw [hb10]; rfl)) rfl rfl (x_move (hF.tmp 1 rfl)) ?_; clear hF; intro a hF
    refine l_atg hF ((wanted_of hF rfl rfl rfl rfl).trans (by rw [hb10]; rfl)) rfl rfl (x_eqn (xs := (xs.take (ys.length : Int).toNat)) (ys := ys) (hF.tmp 14 rfl) (hF.tmp 15 rfl) (hxs.take _) hys) ?_; clear hF; intro a hF
    refine l_at hF rfl rfl rfl (x_pickT (hF.tmp 10 rfl) hb10 (hF.tmp 16 rfl)) ?_; clear hF; intro a hF
    refine l_at hF rfl rfl rfl (x_assign (hF.tmp 17 rfl)) ?_; clear hF; intro a hF
    refine wpList_nil ?_
    refine hK2 _ _ ?_
    refine wp_ret ?_
    try simp only [Exit.then, Exit.inBlock]
    exact fin_ret hF (res1 hF rfl rfl) ⟨by first | (rw [pre_long (xs := ys) (b := xs) (by omega)]; done) | (rw [pre_long (xs := ys) (b := xs) (by omega)]; rfl) | (rw [← pre_take (xs := ys) (by omega)]; rfl), hH.mods⟩
  · have hc10 := hb10; try simp only [Bool.or_eq_true, Bool.and_eq_true, Bool.or_eq_false_iff, Bool.and_eq_false_iff, Bool.not_eq_true', Bool.not_eq_false', decide_eq_true_eq, decide_eq_false_iff_not, Bool.not_true, Bool.not_false] at hc10
    refine l_offg hF ((wanted_of hF rfl rfl rfl rfl).trans (by rw [hb10]; rfl)) rfl rfl ?_; clear hF; intro a hF
    refine l_offg hF ((wanted_of hF rfl rfl rfl rfl).trans (by rw [hb10]; rfl)) rfl rfl ?_; clear hF; intro a hF
    refine l_offg hF ((wanted_of hF rfl rfl rfl rfl).trans (by rw [hb10]; rfl)) rfl rfl ?_; clear hF; intro a hF
    refine l_offg hF ((wanted_of hF rfl rfl rfl rfl).trans (by rw [hb10]; rfl)) rfl rfl ?_; clear hF; intro a hF
    refine l_offg hF ((wanted_of hF rfl rfl rfl rfl).trans (by rw [hb10]; rfl)) rfl rfl ?_; clear hF; intro a hF
    refine l_offg hF ((wanted_of hF rfl rfl rfl rfl).trans (by rw [hb10]; rfl)) rfl rfl ?_; clear hF; intro a hF
    refine l_at hF rfl rfl rfl (x_pickF (hF.tmp 10 rfl) hb10 rfl) ?_; clear hF; intro a hF
    refine l_at hF rfl rfl rfl (x_assign (hF.tmp 17 rfl)) ?_; clear hF; intro a hF
    refine wpList_nil ?_
    refine hK2 _ _ ?_
    refine wp_ret ?_
    try simp only [Exit.then, Exit.inBlock]
    exact fin_ret hF (res1 hF rfl rfl) ⟨by first | (rw [pre_long (xs := ys) (b := xs) (by omega)]; done) | (rw [pre_long (xs := ys) (b := xs) (by omega)]; rfl) | (rw [← pre_take (xs := ys) (by omega)]; rfl), hH.mods⟩

set_option maxRecDepth 100000 in
set_option maxHeartbeats 1000000 in
theorem pre_calls (w0 : World) {xs : List Int} (hxs : Byte xs) {ys : List Int} (hys : Byte ys) (hla : xs.length ≤ 9223372036854775807) (hlb : ys.length ≤ 9223372036854775807) : Calls Try.prog 30 #[.string (strOfNums xs), .string (strOfNums ys)] w0 fun e w' => e = .returned (.bool (decide (ys <+: xs))) ∧ Mods (fun _ => False) w0 w' := by
  refine calls_of_wp Try.func30 rfl ?_
  have hF := Fr.enter #[.string (strOfNums xs), .string (strOfNums ys)] 8 (slotsOf [.string (strOfNums xs), .string (strOfNums ys)] 0) (Nat.le_of_ble_eq_true rfl) (fun i v h => by have h2 := (get_slotsOf _ 0 i v h).2; simpa only [List.getElem?_toArray, Nat.sub_zero] using h2)
  have hH := Hp.nil (fun _ => False) w0
  rw [Try.ntmps30]
  revert hF; generalize (⟨(#[.string (strOfNums xs), .string (strOfNums ys)] : Array Value) ++ Array.replicate (8 - (#[.string (strOfNums xs), .string (strOfNums ys)] : Array Value).size) undef, []⟩ : Act) = a; intro hF
  refine wp_seq_k fun khK1 hK1 => ?_
  refine wp_region_lit ?_
  refine l_at hF rfl rfl rfl (x_assign rfl) ?_; clear hF; intro a hF
  refine wpList_nil ?_
  refine hK1 _ _ ?_
  refine wp_seq_k fun khK2 hK2 => ?_
  refine wp_region_lit ?_
  refine l_at hF rfl rfl rfl (x_move (hF.tmp 0 rfl)) ?_; clear hF; intro a hF
  refine l_at hF rfl rfl rfl (x_move (hF.tmp 1 rfl)) ?_; clear hF; intro a hF
  refine wpList_plain rfl fun K hK => ?_
  refine w_call hF (x_enter Try.func38 (by kernel_rfl) rfl (by simp only [List.map_toArray, List.map_cons, List.map_nil, hF.tmp 5 rfl, hF.tmp 6 rfl] <;> rfl)) (hasp_calls _ hxs hys hla hlb) rfl rfl ?_
  rintro _ w ⟨rfl, hm_⟩; refine ⟨_, rfl, ?_⟩; clear hF; intro a hF; have hH := hH.same hm_
  refine hK _ _ ?_; clear hK K
  refine l_at hF rfl rfl rfl (x_assign (hF.tmp 7 rfl)) ?_; clear hF; intro a hF
  refine wpList_nil ?_
  refine hK2 _ _ ?_
  refine wp_ret ?_
  try simp only [Exit.then, Exit.inBlock]
  exact fin_ret hF (res1 hF rfl rfl) ⟨rfl, hH.mods⟩

set_option maxRecDepth 100000 in
set_option maxHeartbeats 1000000 in
theorem len_calls (w0 : World) {X : Asn} {tb : Nat} {l : List Ent} (hX : TrieA 58 62 9 tb l X) (hok : X.ok w0) : Calls Try.prog 13 #[.pointer (some ⟨tb, 0, none⟩)] w0 fun e w' => e = .returned (.int .i64 (l.length : Int)) ∧ Mods (fun _ => False) w0 w' := by
  obtain ⟨S, root, rfl, hw, hm, he⟩ := hX
  obtain ⟨p0, hp0, rfl, hb0⟩ := hw.root
  refine calls_of_wp Try.func13 rfl ?_
  have hF := Fr.enter #[.pointer (some ⟨tb, 0, none⟩)] 9 (slotsOf [.pointer (some ⟨tb, 0, none⟩)] 0) (Nat.le_of_ble_eq_true rfl) (fun i v h => by have h2 := (get_slotsOf _ 0 i v h).2; simpa only [List.getElem?_toArray, Nat.sub_zero] using h2)
  rw [Try.ntmps13]
  revert hF; generalize (⟨(#[.pointer (some ⟨tb, 0, none⟩)] : Array Value) ++ Array.replicate (9 - (#[.pointer (some ⟨tb, 0, none⟩)] : Array Value).size) undef, []⟩ : Act) = a; intro hF
  have hH := ro2 hok.holds
  have hpos := hH.arPosR 3 rfl
  refine wp_seq_k fun khK1 hK1 => ?_
  refine wp_region_lit ?_
  refine l_at hF rfl rfl rfl (x_assign rfl) ?_; clear hF; intro a hF
  refine wpList_nil ?_
  refine hK1 _ _ ?_
  refine wp_seq_k fun khK2 hK2 => ?_
  refine wp_seq_k fun khK3 hK3 => ?_
  refine wp_region_lit ?_
  refine l_at hF rfl rfl rfl (x_move (hF.tmp 0 rfl)) ?_; clear hF; intro a hF
  refine l_at hF rfl rfl rfl (x_ptrnil Try.underlying23 (hF.tmp 3 rfl) rfl) ?_; clear hF; intro a hF
  refine wpList_nil ?_
  refine hK3 _ _ ?_
  refine wp_cond_false (hF.tmp 4 rfl) ?_
  refine wp_skip ?_
  refine hK2 _ _ ?_
  refine wp_seq_k fun khK4 hK4 => ?_
  refine wp_region_lit ?_
  refine l_at hF rfl rfl rfl (x_move (hF.tmp 0 rfl)) ?_; clear hF; intro a hF
  refine l_at hF rfl rfl rfl (x_nil (hF.tmp 5 rfl)) ?_; clear hF; intro a hF
  refine l_at hF rfl rfl rfl (x_faddr Try.underlying58 rfl ty3 (by decide) (hF.tmp 6 rfl) rfl) ?_; clear hF; intro a hF
  refine l_at hF rfl rfl rfl (x_load1 ty3 (hF.tmp 7 rfl) (blk_cell (hH.atro 1 rfl) 1 rfl)) ?_; clear hF; intro a hF
  refine l_at hF rfl rfl rfl (x_assign (hF.tmp 8 rfl)) ?_; clear hF; intro a hF
  refine wpList_nil ?_
  refine hK4 _ _ ?_
  refine wp_ret ?_
  try simp only [Exit.then, Exit.inBlock]
  exact fin_ret hF (res1 hF rfl rfl) ⟨rfl, hH.mods⟩

set_option maxRecDepth 100000 in
set_option maxHeartbeats 1000000 in
theorem len_nil (w0 : World) : Calls Try.prog 13 #[.pointer none] w0 fun e w' => e = .returned (.int .i64 0) ∧ Mods (fun _ => False) w0 w' := by
  refine calls_of_wp Try.func13 rfl ?_
  have hF := Fr.enter #[.pointer none] 9 (slotsOf [.pointer none] 0) (Nat.le_of_ble_eq_true rfl) (fun i v h => by have h2 := (get_slotsOf _ 0 i v h).2; simpa only [List.getElem?_toArray, Nat.sub_zero] using h2)
  have hH := Hp.nil (fun _ => False) w0
  rw [Try.ntmps13]
  revert hF; generalize (⟨(#[.pointer none] : Array Value) ++ Array.replicate (9 - (#[.pointer none] : Array Value).size) undef, []⟩ : Act) = a; intro hF
  refine wp_seq_k fun khK1 hK1 => ?_
  refine wp_region_lit ?_
  refine l_at hF rfl rfl rfl (x_assign rfl) ?_; clear hF; intro a hF
  refine wpList_nil ?_
  refine hK1 _ _ ?_
  refine wp_seq_k fun khK2 hK2 => ?_
  refine wp_seq_k fun khK3 hK3 => ?_
  refine wp_region_lit ?_
  refine l_at hF rfl rfl rfl (x_move (hF.tmp 0 rfl)) ?_; clear hF; intro a hF
  refine l_at hF rfl rfl rfl (x_ptrnil Try.underlying23 (hF.tmp 3 rfl) rfl) ?_; clear hF; intro a hF
  refine wpList_nil ?_
  refine hK3 _ _ ?_
  refine wp_cond_true (hF.tmp 4 rfl) ?_
  refine wp_seq_k fun khK4 hK4 => ?_
  refine wp_region_lit ?_
  refine l_at hF rfl rfl rfl (x_assign rfl) ?_; clear hF; intro a hF
  refine wpList_nil ?_
  refine hK4 _ _ ?_
  refine wp_ret ?_
  try simp only [Exit.then, Exit.inBlock]
  exact fin_ret hF (res1 hF rfl rfl) ⟨rfl, hH.mods⟩

set_option maxRecDepth 100000 in
set_option maxHeartbeats 1000000 in
theorem nodes_calls (w0 : World) {X : Asn} {tb : Nat} {l : List Ent} (hX : TrieA 58 62 9 tb l X) (hok : X.ok w0) : Calls Try.prog 19 #[.pointer (some ⟨tb, 0, none⟩)] w0 fun e w' => e = .returned (.int .i64 (nodesL l : Int)) ∧ Mods (fun _ => False) w0 w' := by
  obtain ⟨S, root, rfl, hw, hm, he⟩ := hX
  obtain ⟨p0, hp0, rfl, hb0⟩ := hw.root
  refine calls_of_wp Try.func19 rfl ?_
  have hF := Fr.enter #[.pointer (some ⟨tb, 0, none⟩)] 9 (slotsOf [.pointer (some ⟨tb, 0, none⟩)] 0) (Nat.le_of_ble_eq_true rfl) (fun i v h => by have h2 := (get_slotsOf _ 0 i v h).2; simpa only [List.getElem?_toArray, Nat.sub_zero] using h2)
  rw [Try.ntmps19]
  revert hF; generalize (⟨(#[.pointer (some ⟨tb, 0, none⟩)] : Array Value) ++ Array.replicate (9 - (#[.pointer (some ⟨tb, 0, none⟩)] : Array Value).size) undef, []⟩ : Act) = a; intro hF
  have hH := ro2 hok.holds
  have hpos := hH.arPosR 3 rfl
  refine wp_seq_k fun khK1 hK1 => ?_
  refine wp_region_lit ?_
  refine l_at hF rfl rfl rfl (x_assign rfl) ?_; clear hF; intro a hF
  refine wpList_nil ?_
  refine hK1 _ _ ?_
  refine wp_seq_k fun khK2 hK2 => ?_
  refine wp_seq_k fun khK3 hK3 => ?_
  refine wp_region_lit ?_
  refine l_at hF rfl rfl rfl (x_move (hF.tmp 0 rfl)) ?_; clear hF; intro a hF
  refine l_at hF rfl rfl rfl (x_ptrnil Try.underlying23 (hF.tmp 3 rfl) rfl) ?_; clear hF; intro a hF
  refine wpList_nil ?_
  refine hK3 _ _ ?_
  refine wp_cond_false (hF.tmp 4 rfl) ?_
  refine wp_skip ?_
  refine hK2 _ _ ?_
  refine wp_seq_k fun khK4 hK4 => ?_
  refine wp_region_lit ?_
  refine l_at hF rfl rfl rfl (x_move (hF.tmp 0 rfl)) ?_; clear hF; intro a hF
  refine l_at hF rfl rfl rfl (x_nil (hF.tmp 5 rfl)) ?_; clear hF; intro a hF
  refine l_at hF rfl rfl rfl (x_faddr Try.underlying58 rfl ty3 (by decide) (hF.tmp 6 rfl) rfl) ?_; clear hF; intro a hF
  refine l_at hF rfl rfl rfl (x_load1 ty3 (hF.tmp 7 rfl) (blk_cell (hH.atro 1 rfl) 2 rfl)) ?_; clear hF; intro a hF
  refine l_at hF rfl rfl rfl (x_assign (hF.tmp 8 rfl)) ?_; clear hF; intro a hF
  refine wpList_nil ?_
  refine hK4 _ _ ?_
  refine wp_ret ?_
  try simp only [Exit.then, Exit.inBlock]
  exact fin_ret hF (res1 hF rfl rfl) ⟨by rw [hw.count hm he]; rfl, hH.mods⟩

set_option maxRecDepth 100000 in
set_option maxHeartbeats 1000000 in
theorem nodes_nil (w0 : World) : Calls Try.prog 19 #[.pointer none] w0 fun e w' => e = .returned (.int .i64 0) ∧ Mods (fun _ => False) w0 w' := by
  refine calls_of_wp Try.func19 rfl ?_
  have hF := Fr.enter #[.pointer none] 9 (slotsOf [.pointer none] 0) (Nat.le_of_ble_eq_true rfl) (fun i v h => by have h2 := (get_slotsOf _ 0 i v h).2; simpa only [List.getElem?_toArray, Nat.sub_zero] using h2)
  have hH := Hp.nil (fun _ => False) w0
  rw [Try.ntmps19]
  revert hF; generalize (⟨(#[.pointer none] : Array Value) ++ Array.replicate (9 - (#[.pointer none] : Array Value).size) undef, []⟩ : Act) = a; intro hF
  refine wp_seq_k fun khK1 hK1 => ?_
  refine wp_region_lit ?_
  refine l_at hF rfl rfl rfl (x_assign rfl) ?_; clear hF; intro a hF
  refine wpList_nil ?_
  refine hK1 _ _ ?_
  refine wp_seq_k fun khK2 hK2 => ?_
  refine wp_seq_k fun khK3 hK3 => ?_
  refine wp_region_lit ?_
  refine l_at hF rfl rfl rfl (x_move (hF.tmp 0 rfl)) ?_; clear hF; intro a hF
  refine l_at hF rfl rfl rfl (x_ptrnil Try.underlying23 (hF.tmp 3 rfl) rfl) ?_; clear hF; intro a hF
  refine wpList_nil ?_
  refine hK3 _ _ ?_
  refine wp_cond_true (hF.tmp 4 rfl) ?_
  refine wp_seq_k fun khK4 hK4 => ?_
  refine wp_region_lit ?_
  refine l_at hF rfl rfl rfl (x_assign rfl) ?_; clear hF; intro a hF
  refine wpList_nil ?_
  refine hK4 _ _ ?_
  refine wp_ret ?_
  try simp only [Exit.then, Exit.inBlock]
  exact fin_ret hF (res1 hF rfl rfl) ⟨rfl, hH.mods⟩

set_option maxRecDepth 100000 in
set_option maxHeartbeats 1000000 in
theorem get_calls (w0 : World) {X : Asn} {tb : Nat} {l : List Ent} (hX : TrieA 58 62 9 tb l X) (hok : X.ok w0) {key : List Int} (hkb : Byte key) (hkl : key.length ≤ 9223372036854775807) : Calls Try.prog 11 #[.pointer (some ⟨tb, 0, none⟩), .string (strOfNums key)] w0 fun e w' => e = .returned (.tuple #[.string (strOfNums ((al l key).getD [])), .bool (al l key).isSome]) ∧ Mods (fun _ => False) w0 w' := by
  obtain ⟨S, root, rfl, hw, hm, he⟩ := hX
  obtain ⟨p0, hp0, rfl, hb0⟩ := hw.root
  refine calls_of_wp Try.func11 rfl ?_
  have hF := Fr.enter #[.pointer (some ⟨tb, 0, none⟩), .string (strOfNums key)] 53 (slotsOf [.pointer (some ⟨tb, 0, none⟩), .string (strOfNums key)] 0) (Nat.le_of_ble_eq_true rfl) (fun i v h => by have h2 := (get_slotsOf _ 0 i v h).2; simpa only [List.getElem?_toArray, Nat.sub_zero] using h2)
  rw [Try.ntmps11]
  revert hF; generalize (⟨(#[.pointer (some ⟨tb, 0, none⟩), .string (strOfNums key)] : Array Value) ++ Array.replicate (53 - (#[.pointer (some ⟨tb, 0, none⟩), .string (strOfNums key)] : Array Value).size) undef, []⟩ : Act) = a; intro hF
  have hH := ro2 hok.holds
  have hpos := hH.arPosR 3 rfl
  refine wp_seq_k fun khK1 hK1 => ?_
  refine wp_region_lit ?_
  refine l_at hF rfl rfl rfl (x_assign (show _ = Value.string (strOfNums ([] : List Int)) by kernel_rfl)) ?_; clear hF; intro a hF
  refine l_at hF rfl rfl rfl (x_assign rfl) ?_; clear hF; intro a hF
  refine wpList_nil ?_
  refine hK1 _ _ ?_
  refine wp_seq_k fun khK2 hK2 => ?_
  refine wp_seq_k fun khK3 hK3 => ?_
  refine wp_region_lit ?_
  refine l_at hF rfl rfl rfl (x_move (hF.tmp 0 rfl)) ?_; clear hF; intro a hF
  refine l_at hF rfl rfl rfl (x_ptrnil Try.underlying23 (hF.tmp 8 rfl) rfl) ?_; clear hF; intro a hF
  refine wpList_nil ?_
  refine hK3 _ _ ?_
  refine wp_cond_false (hF.tmp 9 rfl) ?_
  refine wp_skip ?_
  refine hK2 _ _ ?_
  refine wp_seq_k fun khK4 hK4 => ?_
  refine wp_region_lit ?_
  refine l_at hF rfl rfl rfl (x_move (hF.tmp 0 rfl)) ?_; clear hF; intro a hF
  refine l_at hF rfl rfl rfl (x_nil (hF.tmp 10 rfl)) ?_; clear hF; intro a hF
  refine l_at hF rfl rfl rfl (x_faddr Try.underlying58 rfl ty56 (by decide) (hF.tmp 11 rfl) rfl) ?_; clear hF; intro a hF
  refine l_at hF rfl rfl rfl (x_load1 ty56 (hF.tmp 12 rfl) (blk_cell (hH.atro 1 rfl) 0 rfl)) ?_; clear hF; intro a hF
  refine l_at hF rfl rfl rfl (x_assign (hF.tmp 13 rfl)) ?_; clear hF; intro a hF
  refine wpList_nil ?_
  refine hK4 _ _ ?_
  refine wp_seq_k fun khK5 hK5 => ?_
  refine wp_block ?_
  refine wp_loop_ghost (fun n_ a w => ∃ p : TRec, ∃ rest : List Int, n_ = rest.length ∧ (p ∈ S) ∧ (key = p.path ++ rest) ∧ Fr 53 a [(1, .string (strOfNums rest)), (6, ptrV p.nb)] ∧ Hp (fun _ => False) w0 w [(1, .ro (.blk tb (.cells #[ptrV p0.nb, .int .i64 (l.length : Int), .int .i64 (S.length : Int)] 58 (0, 0)))), (3, .ro (.arena 62 9 S))]) (key.length) ?_ ?_
  · exact ⟨p0, key, rfl, hp0, (by rw [hb0]; rfl), ((hF.bare.add hF 6 rfl).add hF 1 rfl), hH.sub _ (sub_cons (sub_cons (sub_nil _) 3 rfl) 1 rfl)⟩
  · rintro _ a w ⟨p, rest, rfl, hq0_0, hq0_1, hF, hH⟩
    have hrb : Byte rest := fun n hn => hkb n (by rw [hq0_1]; exact List.mem_append_right _ hn)
    have hrl : rest.length ≤ key.length := by rw [hq0_1, List.length_append]; omega
    obtain ⟨bp, hbp, hH⟩ := hH.arRo 3 11 12 14 (by decide) rfl hq0_0
    rw [ptrV_of hbp] at hF
    refine wp_seq_k fun khK6 hK6 => ?_
    refine wp_seq_k fun khK7 hK7 => ?_
    refine wp_region_lit ?_
    refine l_at hF rfl rfl rfl (x_move (hF.tmp 1 rfl)) ?_; clear hF; intro a hF
    refine l_at hF rfl rfl rfl (x_nen0 (xs := rest) (hF.tmp 14 rfl) (show _ = Value.string (strOfNums ([] : List Int)) by kernel_rfl)) ?_; clear hF; intro a hF
    refine wpList_nil ?_
    refine hK7 _ _ ?_
    refine wp_cond_split (hF.tmp 15 rfl) (fun hc15 => ?_) (fun hc15 => ?_)
    · have hk15_1 := hc15; try simp only [Bool.or_eq_true, Bool.and_eq_true, Bool.or_eq_false_iff, Bool.and_eq_false_iff, Bool.not_eq_true', Bool.not_eq_false', decide_eq_true_eq, decide_eq_false_iff_not, Bool.not_true, Bool.not_false] at hc15
      refine wp_skip ?_
      refine hK6 _ _ ?_
      refine wp_block ?_
      refine wp_seq_k fun khK8 hK8 => ?_
      refine r_start [(11, .ro (.blk bp (.cells #[.string (strOfNums p.lab), .pointer (valA p.val), .map (some p.mb)] 62 (0, 0)))), (12, .ro (.map KB NV p.mb p.kids noB))] (by kernel_rfl) hH fun hH => ?_
      have hS : SL [(11, .ro (.blk bp (.cells #[.string (strOfNums p.lab), .pointer (valA p.val), .map (some p.mb)] 62 (0, 0)))), (12, .ro (.map KB NV p.mb p.kids noB))] _ := SL.of hH (sub_cons (sub_cons (sub_nil _) 12 rfl) 11 rfl)
      refine r_take 0 hF rfl rfl rfl (by kernel_rfl) (by kernel_rfl) (by kernel_rfl) (fun _ _ _ h => h) rfl hS (fun w hS => x_move (hF.tmp 6 rfl)) rfl ?_; clear hF; intro a hF
      refine r_take 1 hF rfl rfl rfl (by kernel_rfl) (by kernel_rfl) (by kernel_rfl) (fun _ _ _ h => h) rfl hS (fun w hS => x_nil (hF.tmp 16 rfl)) rfl ?_; clear hF; intro a hF
      refine r_take 2 hF rfl rfl rfl (by kernel_rfl) (by kernel_rfl) (by kernel_rfl) (fun _ _ _ h => h) rfl hS (fun w hS => x_faddr Try.underlying62 rfl ty60 (by decide) (hF.tmp 17 rfl) rfl) rfl ?_; clear hF; intro a hF
      refine r_take 3 hF rfl rfl rfl (by kernel_rfl) (by kernel_rfl) (by kernel_rfl) (fun _ _ _ h => h) rfl hS (fun w hS => x_load1 ty60 (hF.tmp 18 rfl) (blk_cell (SL.atro hS 11 rfl) 2 rfl)) rfl ?_; clear hF; intro a hF
      refine r_take 4 hF rfl rfl rfl (by kernel_rfl) (by kernel_rfl) (by kernel_rfl) (fun _ _ _ h => h) rfl hS (fun w hS => x_move (hF.tmp 1 rfl)) rfl ?_; clear hF; intro a hF
      refine r_take 5 hF rfl rfl rfl (by kernel_rfl) (by kernel_rfl) (by kernel_rfl) (fun _ _ _ h => h) rfl hS (fun w hS => x_idxS (xs := rest) Try.underlying9 (hF.tmp 20 rfl) rfl (by assumption) (by omega) (by omega)) rfl ?_; clear hF; intro a hF
      refine r_take 6 hF rfl rfl rfl (by kernel_rfl) (by kernel_rfl) (by kernel_rfl) (fun _ _ _ h => h) rfl hS (fun w hS => x_lookF (enc := ptrV) (x0 := 0) (k := (gi rest 0)) (hS 12 _ rfl) Try.underlying60 Try.underlying5 (ty56).zero (hF.tmp 19 rfl) (hF.tmp 21 rfl)) rfl ?_; clear hF; intro a hF
      refine r_take 7 hF rfl rfl rfl (by kernel_rfl) (by kernel_rfl) (by kernel_rfl) (fun _ _ _ h => h) rfl hS (fun w hS => x_assign (hF.tmp 22 rfl)) rfl ?_; clear hF; intro a hF
      refine r_end (by kernel_rfl) ?_; clear hS
      refine hK8 _ _ ?_
      refine wp_seq_k fun khK9 hK9 => ?_
      refine wp_seq_k fun khK10 hK10 => ?_
      refine wp_region_lit ?_
      refine l_at hF rfl rfl rfl (x_move (hF.tmp 7 rfl)) ?_; clear hF; intro a hF
      refine l_at hF rfl rfl rfl (x_ptrnil (pa := (ptrA ((al p.kids (gi rest 0)).getD 0))) Try.underlying56 (hF.tmp 23 rfl) rfl) ?_; clear hF; intro a hF
      refine l_at hF rfl rfl rfl (x_move (hF.tmp 24 rfl)) ?_; clear hF; intro a hF
      refine split_bool hF 25 rfl (fun hb25 => ?_) (fun hb25 => ?_)
      · have hc25 := hb25; try simp only [Bool.or_eq_true, Bool.and_eq_true, Bool.or_eq_false_iff, Bool.and_eq_false_iff, Bool.not_eq_true', Bool.not_eq_false', decide_eq_true_eq, decide_eq_false_iff_not, Bool.not_true, Bool.not_false] at hc25
        have hkn := hw.kidNone hq0_0 hpos hc25
        refine l_offg hF ((wanted_of hF rfl rfl rfl rfl).trans (by rw [hb25]; rfl)) rfl rfl ?_; clear hF; intro a hF
        refine l_offg hF ((wanted_of hF rfl rfl rfl rfl).trans (by rw [hb25]; rfl)) rfl rfl ?_; clear hF; intro a hF
        refine l_offg hF ((wanted_of hF rfl rfl rfl rfl).trans (by rw [hb25]; rfl)) rfl rfl ?_; clear hF; intro a hF
        refine l_offg hF ((wanted_of hF rfl rfl rfl rfl).trans (by rw [hb25]; rfl)) rfl rfl ?_; clear hF; intro a hF
        refine l_offg hF ((wanted_of hF rfl rfl rfl rfl).trans (by rw [hb25]; rfl)) rfl rfl ?_; clear hF; intro a hF
        refine l_offg hF ((wanted_of hF rfl rfl rfl rfl).trans (by rw [hb25]; rfl)) rfl rfl ?_; clear hF; intro a hF
        refine l_offg hF ((wanted_of hF rfl rfl rfl rfl).trans (by rw [hb25]; rfl)) rfl rfl ?_; clear hF; intro a hF
        refine l_at hF rfl rfl rfl (x_pickT (hF.tmp 25 rfl) hb25 rfl) ?_; clear hF; intro a hF
        refine wpList_nil ?_
        refine hK10 _ _ ?_
        refine wp_cond_true (hF.tmp 33 rfl) ?_
        refine wp_seq_k fun khK11 hK11 => ?_
        refine wp_region_lit ?_
        refine l_at hF rfl rfl rfl (x_assign (show _ = Value.string (strOfNums ([] : List Int)) by kernel_rfl)) ?_; clear hF; intro a hF
        refine l_at hF rfl rfl rfl (x_assign rfl) ?_; clear hF; intro a hF
        refine wpList_nil ?_
        refine hK11 _ _ ?_
        refine wp_ret ?_
        try simp only [Exit.then, Exit.inBlock]
        have hg : al l key = none := (by rw [hq0_1]; exact he.miss1 hw hq0_0 (head_gi (by omega)) hkn)
        exact fin_ret hF (res2 hF rfl rfl rfl) ⟨by rw [hg]; rfl, hH.mods⟩
      · have hc25 := hb25; try simp only [Bool.or_eq_true, Bool.and_eq_true, Bool.or_eq_false_iff, Bool.and_eq_false_iff, Bool.not_eq_true', Bool.not_eq_false', decide_eq_true_eq, decide_eq_false_iff_not, Bool.not_true, Bool.not_false] at hc25
        obtain ⟨q, hq, hkq⟩ := hw.kidSome hq0_0 hc25
        obtain ⟨bq, hbq, hH⟩ := hH.arRo 3 21 22 24 (by decide) rfl hq
        rw [kidV hkq hbq] at hF
        refine l_atg hF ((wanted_of hF rfl rfl rfl rfl).trans (by rw [hb25]; rfl)) rfl rfl (x_move (hF.tmp 1 rfl)) ?_; clear hF; intro a hF
        refine l_atg hF ((wanted_of hF rfl rfl rfl rfl).trans (by rw [hb25]; rfl)) rfl rfl (x_move (hF.tmp 7 rfl)) ?_; clear hF; intro a hF
        refine l_atg hF ((wanted_of hF rfl rfl rfl rfl).trans (by rw [hb25]; rfl)) rfl rfl (x_nil (hF.tmp 27 rfl)) ?_; clear hF; intro a hF
        refine l_atg hF ((wanted_of hF rfl rfl rfl rfl).trans (by rw [hb25]; rfl)) rfl rfl (x_faddr Try.underlying62 rfl ty9 (by decide) (hF.tmp 28 rfl) rfl) ?_; clear hF; intro a hF
        refine l_atg hF ((wanted_of hF rfl rfl rfl rfl).trans (by rw [hb25]; rfl)) rfl rfl (x_load1 ty9 (hF.tmp 29 rfl) (blk_cell (hH.atro 21 rfl) 0 rfl)) ?_; clear hF; intro a hF
        refine wpList_on ((wanted_of hF rfl rfl rfl rfl).trans (by rw [hb25]; rfl)) fun K hK => ?_
        refine w_call hF (x_enter Try.func30 (by kernel_rfl) rfl (by simp only [List.map_toArray, List.map_cons, List.map_nil, hF.tmp 26 rfl, hF.tmp 30 rfl] <;> rfl)) (pre_calls _ (hrb) (hw.byte q hq).2.2.1 (by omega) (Nat.le_trans (hw.byte q hq).2.2.2 (by decide))) rfl rfl ?_
        rintro _ w ⟨rfl, hm_⟩; refine ⟨_, rfl, ?_⟩; clear hF; intro a hF; have hH := hH.same hm_
        refine hK _ _ ?_; clear hK K
        refine l_atg hF ((wanted_of hF rfl rfl rfl rfl).trans (by rw [hb25]; rfl)) rfl rfl (x_not (hF.tmp 31 rfl)) ?_; clear hF; intro a hF
        refine l_at hF rfl rfl rfl (x_pickF (hF.tmp 25 rfl) hb25 (hF.tmp 32 rfl)) ?_; clear hF; intro a hF
        refine wpList_nil ?_
        refine hK10 _ _ ?_
        refine wp_cond_split (hF.tmp 33 rfl) (fun hc33 => ?_) (fun hc33 => ?_)
        · have hk33_2 := hc33; try simp only [Bool.or_eq_true, Bool.and_eq_true, Bool.or_eq_false_iff, Bool.and_eq_false_iff, Bool.not_eq_true', Bool.not_eq_false', decide_eq_true_eq, decide_eq_false_iff_not, Bool.not_true, Bool.not_false] at hc33
          refine wp_seq_k fun khK12 hK12 => ?_
          refine wp_region_lit ?_
          refine l_at hF rfl rfl rfl (x_assign (show _ = Value.string (strOfNums ([] : List Int)) by kernel_rfl)) ?_; clear hF; intro a hF
          refine l_at hF rfl rfl rfl (x_assign rfl) ?_; clear hF; intro a hF
          refine wpList_nil ?_
          refine hK12 _ _ ?_
          refine wp_ret ?_
          try simp only [Exit.then, Exit.inBlock]
          have hg : al l key = none := (by rw [hq0_1]; exact he.miss2 hw hq0_0 hq (head_gi (by omega)) hkq hc33)
          exact fin_ret hF (res2 hF rfl rfl rfl) ⟨by rw [hg]; rfl, hH.mods⟩
        · have hk33_3 := hc33; try simp only [Bool.or_eq_true, Bool.and_eq_true, Bool.or_eq_false_iff, Bool.and_eq_false_iff, Bool.not_eq_true', Bool.not_eq_false', decide_eq_true_eq, decide_eq_false_iff_not, Bool.not_true, Bool.not_false] at hc33
          have hpre : q.lab <+: rest := hc33
          have hqle := hpre.length_le
          refine wp_skip ?_
          refine hK9 _ _ ?_
          refine r_start [(21, .ro (.blk bq (.cells #[.string (strOfNums q.lab), .pointer (valA q.val), .map (some q.mb)] 62 (0, 0))))] (by kernel_rfl) hH fun hH => ?_
          have hS : SL [(21, .ro (.blk bq (.cells #[.string (strOfNums q.lab), .pointer (valA q.val), .map (some q.mb)] 62 (0, 0))))] _ := SL.of hH (sub_cons (sub_nil _) 21 rfl)
          refine r_take 0 hF rfl rfl rfl (by kernel_rfl) (by kernel_rfl) (by kernel_rfl) (fun _ _ _ h => h) rfl hS (fun w hS => x_move (hF.tmp 7 rfl)) rfl ?_; clear hF; intro a hF
          refine r_take 1 hF rfl rfl rfl (by kernel_rfl) (by kernel_rfl) (by kernel_rfl) (fun _ _ _ h => h) rfl hS (fun w hS => x_move (hF.tmp 1 rfl)) rfl ?_; clear hF; intro a hF
          refine r_take 2 hF rfl rfl rfl (by kernel_rfl) (by kernel_rfl) (by kernel_rfl) (fun _ _ _ h => h) rfl hS (fun w hS => x_move (hF.tmp 7 rfl)) rfl ?_; clear hF; intro a hF
          refine r_take 3 hF rfl rfl rfl (by kernel_rfl) (by kernel_rfl) (by kernel_rfl) (fun _ _ _ h => h) rfl hS (fun w hS => x_nil (hF.tmp 36 rfl)) rfl ?_; clear hF; intro a hF
          refine r_take 4 hF rfl rfl rfl (by kernel_rfl) (by kernel_rfl) (by kernel_rfl) (fun _ _ _ h => h) rfl hS (fun w hS => x_faddr Try.underlying62 rfl ty9 (by decide) (hF.tmp 37 rfl) rfl) rfl ?_; clear hF; intro a hF
          refine r_take 5 hF rfl rfl rfl (by kernel_rfl) (by kernel_rfl) (by kernel_rfl) (fun _ _ _ h => h) rfl hS (fun w hS => x_load1 ty9 (hF.tmp 38 rfl) (blk_cell (SL.atro hS 21 rfl) 0 rfl)) rfl ?_; clear hF; intro a hF
          refine r_take 6 hF rfl rfl rfl (by kernel_rfl) (by kernel_rfl) (by kernel_rfl) (fun _ _ _ h => h) rfl hS (fun w hS => x_len_sn (xs := q.lab) Try.underlying9 (hF.tmp 39 rfl)) rfl ?_; clear hF; intro a hF
          refine r_take 7 hF rfl rfl rfl (by kernel_rfl) (by kernel_rfl) (by kernel_rfl) (fun _ _ _ h => h) rfl hS (fun w hS => x_sliceSl (xs := rest) Try.underlying9 (hF.tmp 35 rfl) (hF.tmp 40 rfl) (by omega) (by omega)) rfl ?_; clear hF; intro a hF
          refine r_take 8 hF rfl rfl rfl (by kernel_rfl) (by kernel_rfl) (by kernel_rfl) (fun _ _ _ h => h) rfl hS (fun w hS => x_assign (hF.tmp 34 rfl)) rfl ?_; clear hF; intro a hF
          refine r_take 9 hF rfl rfl rfl (by kernel_rfl) (by kernel_rfl) (by kernel_rfl) (fun _ _ _ h => h) rfl hS (fun w hS => x_assign (hF.tmp 41 rfl)) rfl ?_; clear hF; intro a hF
          refine r_end (by kernel_rfl) ?_; clear hS
          rw [← ptrV_of hbq] at hF
          exact ⟨_, (kid_lt hw hq0_0 hq hkq hpre), ⟨q, rest.drop q.lab.length, rfl, hq, kid_key hw hq0_0 hq hkq hq0_1 hpre, ((hF.bare.add hF 6 rfl).add hF 1 rfl), hH.sub _ (sub_cons (sub_cons (sub_nil _) 3 rfl) 1 rfl)⟩⟩
    · have hk15_4 := hc15; try simp only [Bool.or_eq_true, Bool.and_eq_true, Bool.or_eq_false_iff, Bool.and_eq_false_iff, Bool.not_eq_true', Bool.not_eq_false', decide_eq_true_eq, decide_eq_false_iff_not, Bool.not_true, Bool.not_false] at hc15
      obtain rfl := List.length_eq_zero_iff.1 hc15
      rw [List.append_nil] at hq0_1
      refine wp_exit ?_
      refine hK5 _ _ ?_
      refine wp_seq_k fun khK13 hK13 => ?_
      refine wp_seq_k fun khK14 hK14 => ?_
      refine wp_region_lit ?_
      refine l_at hF rfl rfl rfl (x_move (hF.tmp 6 rfl)) ?_; clear hF; intro a hF
      refine l_at hF rfl rfl rfl (x_nil (hF.tmp 42 rfl)) ?_; clear hF; intro a hF
      refine l_at hF rfl rfl rfl (x_faddr Try.underlying62 rfl ty59 (by decide) (hF.tmp 43 rfl) rfl) ?_; clear hF; intro a hF
      refine l_at hF rfl rfl rfl (x_load1 ty59 (hF.tmp 44 rfl) (blk_cell (hH.atro 11 rfl) 1 rfl)) ?_; clear hF; intro a hF
      refine l_at hF rfl rfl rfl (x_ptrnil (pa := (valA p.val)) Try.underlying59 (hF.tmp 45 rfl) rfl) ?_; clear hF; intro a hF
      refine wpList_nil ?_
      refine hK14 _ _ ?_
      refine wp_cond_split (hF.tmp 46 rfl) (fun hc46 => ?_) (fun hc46 => ?_)
      · have hk46_5 := hc46; try simp only [Bool.or_eq_true, Bool.and_eq_true, Bool.or_eq_false_iff, Bool.and_eq_false_iff, Bool.not_eq_true', Bool.not_eq_false', decide_eq_true_eq, decide_eq_false_iff_not, Bool.not_true, Bool.not_false] at hc46
        have hv := valA_none hc46
        refine wp_seq_k fun khK15 hK15 => ?_
        refine wp_region_lit ?_
        refine l_at hF rfl rfl rfl (x_assign (show _ = Value.string (strOfNums ([] : List Int)) by kernel_rfl)) ?_; clear hF; intro a hF
        refine l_at hF rfl rfl rfl (x_assign rfl) ?_; clear hF; intro a hF
        refine wpList_nil ?_
        refine hK15 _ _ ?_
        refine wp_ret ?_
        try simp only [Exit.then, Exit.inBlock]
        have hg : al l key = none := (by rw [hq0_1, he.get hw hq0_0, hv]; rfl)
        exact fin_ret hF (res2 hF rfl rfl rfl) ⟨by rw [hg]; rfl, hH.mods⟩
      · have hk46_6 := hc46; try simp only [Bool.or_eq_true, Bool.and_eq_true, Bool.or_eq_false_iff, Bool.and_eq_false_iff, Bool.not_eq_true', Bool.not_eq_false', decide_eq_true_eq, decide_eq_false_iff_not, Bool.not_true, Bool.not_false] at hc46
        obtain ⟨bv, v, hv⟩ := valA_some hc46
        have hH := hH.vroAt 14 rfl hv
        refine wp_skip ?_
        refine hK13 _ _ ?_
        refine wp_seq_k fun khK16 hK16 => ?_
        refine wp_region_lit ?_
        refine l_at hF rfl rfl rfl (x_move (hF.tmp 6 rfl)) ?_; clear hF; intro a hF
        refine l_at hF rfl rfl rfl (x_nil (hF.tmp 47 rfl)) ?_; clear hF; intro a hF
        refine l_at hF rfl rfl rfl (x_faddr Try.underlying62 rfl ty59 (by decide) (hF.tmp 48 rfl) rfl) ?_; clear hF; intro a hF
        refine l_at hF rfl rfl rfl (x_load1 ty59 (hF.tmp 49 rfl) (blk_cell (hH.atro 11 rfl) 1 rfl)) ?_; clear hF; intro a hF
        rw [valA_of hv] at hF
        refine l_at hF rfl rfl rfl (x_nil (hF.tmp 50 rfl)) ?_; clear hF; intro a hF
        refine l_at hF rfl rfl rfl (x_load1 ty9 (hF.tmp 51 rfl) (blk_cell (hH.atro 14 rfl) 0 rfl)) ?_; clear hF; intro a hF
        refine l_at hF rfl rfl rfl (x_assign (hF.tmp 52 rfl)) ?_; clear hF; intro a hF
        refine l_at hF rfl rfl rfl (x_assign rfl) ?_; clear hF; intro a hF
        refine wpList_nil ?_
        refine hK16 _ _ ?_
        refine wp_ret ?_
        try simp only [Exit.then, Exit.inBlock]
        have hg : al l key = some v := (by rw [hq0_1, he.get hw hq0_0, hv]; rfl)
        exact fin_ret hF (res2 hF rfl rfl rfl) ⟨by rw [hg]; rfl, hH.mods⟩

set_option maxRecDepth 100000 in
set_option maxHeartbeats 1000000 in
theorem get_nil (w0 : World) (key : List Int) : Calls Try.prog 11 #[.pointer none, .string (strOfNums key)] w0 fun e w' => e = .returned (.tuple #[.string (strOfNums []), .bool false]) ∧ Mods (fun _ => False) w0 w' := by
  refine calls_of_wp Try.func11 rfl ?_
  have hF := Fr.enter #[.pointer none, .string (strOfNums key)] 53 (slotsOf [.pointer none, .string (strOfNums key)] 0) (Nat.le_of_ble_eq_true rfl) (fun i v h => by have h2 := (get_slotsOf _ 0 i v h).2; simpa only [List.getElem?_toArray, Nat.sub_zero] using h2)
  have hH := Hp.nil (fun _ => False) w0
  rw [Try.ntmps11]
  revert hF; generalize (⟨(#[.pointer none, .string (strOfNums key)] : Array Value) ++ Array.replicate (53 - (#[.pointer none, .string (strOfNums key)] : Array Value).size) undef, []⟩ : Act) = a; intro hF
  refine wp_seq_k fun khK1 hK1 => ?_
  refine wp_region_lit ?_
  refine l_at hF rfl rfl rfl (x_assign (show _ = Value.string (strOfNums ([] : List Int)) by kernel_rfl)) ?_; clear hF; intro a hF
  refine l_at hF rfl rfl rfl (x_assign rfl) ?_; clear hF; intro a hF
  refine wpList_nil ?_
  refine hK1 _ _ ?_
  refine wp_seq_k fun khK2 hK2 => ?_
  refine wp_seq_k fun khK3 hK3 => ?_
  refine wp_region_lit ?_
  refine l_at hF rfl rfl rfl (x_move (hF.tmp 0 rfl)) ?_; clear hF; intro a hF
  refine l_at hF rfl rfl rfl (x_ptrnil Try.underlying23 (hF.tmp 8 rfl) rfl) ?_; clear hF; intro a hF
  refine wpList_nil ?_
  refine hK3 _ _ ?_
  refine wp_cond_true (hF.tmp 9 rfl) ?_
  refine wp_seq_k fun khK4 hK4 => ?_
  refine wp_region_lit ?_
  refine l_at hF rfl rfl rfl (x_assign (show _ = Value.string (strOfNums ([] : List Int)) by kernel_rfl)) ?_; clear hF; intro a hF
  refine l_at hF rfl rfl rfl (x_assign rfl) ?_; clear hF; intro a hF
  refine wpList_nil ?_
  refine hK4 _ _ ?_
  refine wp_ret ?_
  try simp only [Exit.then, Exit.inBlock]
  exact fin_ret hF (res2 hF rfl rfl rfl) ⟨rfl, hH.mods⟩

set_option maxRecDepth 100000 in
set_option maxHeartbeats 1000000 in
theorem new_calls (w0 : World) : Calls Try.prog 14 #[] w0 fun e w' => ∃ tb X, e = .returned (.pointer (some ⟨tb, 0, none⟩)) ∧ TrieA 58 62 9 tb [] X ∧ Mods (fun _ => False) w0 w' ∧ X.ok w' ∧ (∀ k, X.own k → w0.heap.size ≤ k) ∧ ∀ k, X.rd k → False := by
  refine calls_of_wp Try.func14 rfl ?_
  have hF := Fr.enter #[] 6 (slotsOf [] 0) (Nat.le_of_ble_eq_true rfl) (fun i v h => by have h2 := (get_slotsOf _ 0 i v h).2; simpa only [List.getElem?_toArray, Nat.sub_zero] using h2)
  have hH := Hp.nil (fun _ => False) w0
  rw [Try.ntmps14]
  revert hF; generalize (⟨(#[] : Array Value) ++ Array.replicate (6 - (#[] : Array Value).size) undef, []⟩ : Act) = a; intro hF
  refine wp_seq_k fun khK1 hK1 => ?_
  refine wp_region_lit ?_
  refine l_at hF rfl rfl rfl (x_assign rfl) ?_; clear hF; intro a hF
  refine wpList_nil ?_
  refine hK1 _ _ ?_
  refine wp_seq_k fun khK2 hK2 => ?_
  refine wp_region_lit ?_
  refine wpList_plain rfl fun K hK => ?_
  refine w_makeMap KB NV 42 hF hH rfl ?_
  clear hF hH; intro a w b1 hF hH
  refine hK _ _ ?_; clear hK K
  refine l_at hF rfl rfl rfl (x_buildS (cells := #[.string (strOfNums []), .pointer none, .map (some b1)]) (places := #[(0, 1), (1, 1), (2, 1)]) Try.underlying62 ty62 (by kernel_rfl) (by simp only [List.map_toArray, List.map_cons, List.map_nil, hF.tmp 1 rfl] <;> rfl) rfl) ?_; clear hF; intro a hF
  refine wpList_plain rfl fun K hK => ?_
  refine w_box 41 hF hH rfl (hF.tmp 2 rfl) ?_
  clear hF hH; intro a w b3 hF hH
  refine hK _ _ ?_; clear hK K
  refine l_at hF rfl rfl rfl (x_buildS (cells := #[.pointer (some ⟨b3, 0, none⟩), .int .i64 0, .int .i64 1]) (places := #[(0, 1), (1, 1), (2, 1)]) Try.underlying58 ty58 (by kernel_rfl) (by simp only [List.map_toArray, List.map_cons, List.map_nil, hF.tmp 3 rfl] <;> rfl) rfl) ?_; clear hF; intro a hF
  refine wpList_plain rfl fun K hK => ?_
  refine w_box 1 hF hH rfl (hF.tmp 4 rfl) ?_
  clear hF hH; intro a w b5 hF hH
  refine hK _ _ ?_; clear hK K
  refine l_at hF rfl rfl rfl (x_assign (hF.tmp 5 rfl)) ?_; clear hF; intro a hF
  refine wpList_nil ?_
  refine hK2 _ _ ?_
  refine wp_ret ?_
  try simp only [Exit.then, Exit.inBlock]
  have hH := (hH.arNil 3 62 9).drop 43
  have hH := hH.arClose (r := ⟨[], b3 + 1, b1, [], none, []⟩) 3 41 42 43 (by decide) rfl rfl rfl rfl rfl
  have hh : Hp _ w0 w [(1, .blk b5 (.cells #[ptrV (b3 + 1), .int .i64 (([] : List Ent).length : Int), .int .i64 (([⟨[], b3 + 1, b1, [], none, []⟩] : List TRec).length : Int)] 58 (0, 0))), (3, .arena 62 9 [⟨[], b3 + 1, b1, [], none, []⟩])] := hH.sub _ (sub_cons (sub_cons (sub_nil _) 3 rfl) 1 rfl)
  exact fin_ret hF (res1 hF rfl rfl) ⟨b5, _, rfl, ⟨_, _, rfl, WF.one _ _, min_one _ _, ent_one _ _⟩, hH.mods, hh.okAll, fun k ⟨i, A, hA, hk⟩ => (hh.mine i A hA k hk).resolve_left id, rdin_cons (fun k h => h.elim) (rdin_cons (fun k ⟨r, hr, v, hv⟩ => by rw [List.mem_singleton] at hr; subst hr; cases hv) rdin_nil)⟩

set_option maxRecDepth 100000 in
set_option maxHeartbeats 1000000 in
theorem longest_calls (w0 : World) {X : Asn} {tb : Nat} {l : List Ent} (hX : TrieA 58 62 9 tb l X) (hok : X.ok w0) {key : List Int} (hkb : Byte key) (hkl : key.length ≤ 9223372036854775807) : Calls Try.prog 20 #[.pointer (some ⟨tb, 0, none⟩), .string (strOfNums key)] w0 fun e w' => ∃ best, LngOf l key (key.length + 1) best ∧ e = .returned (.tuple #[.agg #[.string (strOfNums (best.getD ([], [])).1), .string (strOfNums (best.getD ([], [])).2)], .bool best.isSome]) ∧ Mods (fun _ => False) w0 w' := by
  obtain ⟨S, root, rfl, hw, hm, he⟩ := hX
  obtain ⟨p0, hp0, rfl, hb0⟩ := hw.root
  refine calls_of_wp Try.func20 rfl ?_
  have hF := Fr.enter #[.pointer (some ⟨tb, 0, none⟩), .string (strOfNums key)] 68 (slotsOf [.pointer (some ⟨tb, 0, none⟩), .string (strOfNums key)] 0) (Nat.le_of_ble_eq_true rfl) (fun i v h => by have h2 := (get_slotsOf _ 0 i v h).2; simpa only [List.getElem?_toArray, Nat.sub_zero] using h2)
  rw [Try.ntmps20]
  revert hF; generalize (⟨(#[.pointer (some ⟨tb, 0, none⟩), .string (strOfNums key)] : Array Value) ++ Array.replicate (68 - (#[.pointer (some ⟨tb, 0, none⟩), .string (strOfNums key)] : Array Value).size) undef, []⟩ : Act) = a; intro hF
  have hH := ro2 hok.holds
  have hpos := hH.arPosR 3 rfl
  refine wp_seq_k fun khK1 hK1 => ?_
  refine wp_region_lit ?_
  refine wpList_plain rfl fun K hK => ?_
  refine w_alloc 4 hF hH rfl ty30 ?_
  clear hF hH; intro a w b4 hF hH
  refine hK _ _ ?_; clear hK K
  refine l_at hF rfl rfl rfl (x_assign rfl) ?_; clear hF; intro a hF
  refine wpList_nil ?_
  refine hK1 _ _ ?_
  refine wp_seq_k fun khK2 hK2 => ?_
  refine wp_seq_k fun khK3 hK3 => ?_
  refine wp_region_lit ?_
  refine l_at hF rfl rfl rfl (x_move (hF.tmp 0 rfl)) ?_; clear hF; intro a hF
  refine l_at hF rfl rfl rfl (x_ptrnil Try.underlying23 (hF.tmp 10 rfl) rfl) ?_; clear hF; intro a hF
  refine wpList_nil ?_
  refine hK3 _ _ ?_
  refine wp_cond_false (hF.tmp 11 rfl) ?_
  refine wp_skip ?_
  refine hK2 _ _ ?_
  refine wp_seq_k fun khK4 hK4 => ?_
  refine wp_region_lit ?_
  refine wpList_plain rfl fun K hK => ?_
  refine w_alloc 6 hF hH rfl ty30 ?_
  clear hF hH; intro a w b6 hF hH
  refine hK _ _ ?_; clear hK K
  refine wpList_nil ?_
  refine hK4 _ _ ?_
  refine wp_seq_k fun khK5 hK5 => ?_
  refine wp_region_lit ?_
  refine l_at hF rfl rfl rfl (x_assign rfl) ?_; clear hF; intro a hF
  refine wpList_nil ?_
  refine hK5 _ _ ?_
  refine wp_seq_k fun khK6 hK6 => ?_
  refine wp_region_lit ?_
  refine l_at hF rfl rfl rfl (x_move (hF.tmp 0 rfl)) ?_; clear hF; intro a hF
  refine l_at hF rfl rfl rfl (x_nil (hF.tmp 13 rfl)) ?_; clear hF; intro a hF
  refine l_at hF rfl rfl rfl (x_faddr Try.underlying58 rfl ty56 (by decide) (hF.tmp 14 rfl) rfl) ?_; clear hF; intro a hF
  refine l_at hF rfl rfl rfl (x_load1 ty56 (hF.tmp 15 rfl) (blk_cell (hH.atro 1 rfl) 0 rfl)) ?_; clear hF; intro a hF
  refine l_at hF rfl rfl rfl (x_assign (hF.tmp 16 rfl)) ?_; clear hF; intro a hF
  refine l_at hF rfl rfl rfl (x_assign rfl) ?_; clear hF; intro a hF
  refine wpList_nil ?_
  refine hK6 _ _ ?_
  refine wp_block ?_
  refine wp_loop_ghost (fun n_ a w => ∃ p : TRec, ∃ best : Option Ent, n_ = key.length - p.path.length ∧ (p ∈ S) ∧ (p.path <+: key) ∧ (LngOf l key p.path.length best) ∧ Fr 68 a [(1, .string (strOfNums key)), (4, .pointer (some ⟨b4, 0, none⟩)), (6, .pointer (some ⟨b6, 0, none⟩)), (7, .bool best.isSome), (8, ptrV p.nb), (9, .int .i64 (p.path.length : Int))] ∧ Hp (fun _ => False) w0 w [(1, .ro (.blk tb (.cells #[ptrV p0.nb, .int .i64 (l.length : Int), .int .i64 (S.length : Int)] 58 (0, 0)))), (3, .ro (.arena 62 9 S)), (4, .blk b4 (.cells #[.string (strOfNums []), .string (strOfNums [])] 30 (0, 0))), (6, .blk b6 (.cells #[.string (strOfNums (best.getD ([], [])).1), .string (strOfNums (best.getD ([], [])).2)] 30 (0, 0)))]) (key.length) ?_ ?_
  · exact ⟨p0, none, (by rw [hb0]; rfl), hp0, (by rw [hb0]; exact List.nil_prefix), (by rw [hb0]; exact LngOf.start), (by rw [show (p0.path.length : Int) = 0 from by rw [hb0]; rfl]; exact ((((((hF.bare.add hF 9 rfl).add hF 8 rfl).add hF 7 rfl).add hF 6 rfl).add hF 4 rfl).add hF 1 rfl)), hH.sub _ (sub_cons (sub_cons (sub_cons (sub_cons (sub_nil _) 6 rfl) 4 rfl) 3 rfl) 1 rfl)⟩
  · rintro _ a w ⟨p, best, rfl, hq0_0, hq0_1, hq0_2, hF, hH⟩
    have hpl := hq0_1.length_le
    obtain ⟨bp, hbp, hH⟩ := hH.arRo 3 11 12 14 (by decide) rfl hq0_0
    rw [ptrV_of hbp] at hF
    refine wp_block ?_
    refine wp_seq_k fun khK7 hK7 => ?_
    refine wp_seq_k fun khK8 hK8 => ?_
    refine wp_region_lit ?_
    refine l_at hF rfl rfl rfl (x_move (hF.tmp 8 rfl)) ?_; clear hF; intro a hF
    refine l_at hF rfl rfl rfl (x_nil (hF.tmp 17 rfl)) ?_; clear hF; intro a hF
    refine l_at hF rfl rfl rfl (x_faddr Try.underlying62 rfl ty59 (by decide) (hF.tmp 18 rfl) rfl) ?_; clear hF; intro a hF
    refine l_at hF rfl rfl rfl (x_load1 ty59 (hF.tmp 19 rfl) (blk_cell (hH.atro 11 rfl) 1 rfl)) ?_; clear hF; intro a hF
    refine l_at hF rfl rfl rfl (x_ptrne (pa := (valA p.val)) Try.underlying59 (hF.tmp 20 rfl) rfl) ?_; clear hF; intro a hF
    refine wpList_nil ?_
    refine hK8 _ _ ?_
    have hJ21 : ∀ a w, ∀ best2 : Option Ent, (LngOf l key (p.path.length + 1) best2) → Fr 68 a [(1, .string (strOfNums key)), (4, .pointer (some ⟨b4, 0, none⟩)), (6, .pointer (some ⟨b6, 0, none⟩)), (7, .bool best2.isSome), (8, .pointer (some ⟨bp, 0, none⟩)), (9, .int .i64 (p.path.length : Int))] → Hp (fun _ => False) w0 w [(1, .ro (.blk tb (.cells #[ptrV p0.nb, .int .i64 (l.length : Int), .int .i64 (S.length : Int)] 58 (0, 0)))), (3, .ro (.arena 62 9 S)), (4, .blk b4 (.cells #[.string (strOfNums []), .string (strOfNums [])] 30 (0, 0))), (6, .blk b6 (.cells #[.string (strOfNums (best2.getD ([], [])).1), .string (strOfNums (best2.getD ([], [])).2)] 30 (0, 0))), (11, .ro (.blk bp (.cells #[.string (strOfNums p.lab), .pointer (valA p.val), .map (some p.mb)] 62 (0, 0)))), (12, .ro (.map KB NV p.mb p.kids noB))] → khK7 a w := by
      intro a w best2 hj21_0 hF hH
      refine hK7 a w ?_
      refine wp_seq_k fun khK9 hK9 => ?_
      refine wp_seq_k fun khK10 hK10 => ?_
      refine wp_region_lit ?_
      refine l_at hF rfl rfl rfl (x_move (hF.tmp 9 rfl)) ?_; clear hF; intro a hF
      refine l_at hF rfl rfl rfl (x_move (hF.tmp 1 rfl)) ?_; clear hF; intro a hF
      refine l_at hF rfl rfl rfl (x_len_sn (xs := key) Try.underlying9 (hF.tmp 33 rfl)) ?_; clear hF; intro a hF
      refine l_at hF rfl rfl rfl (x_eql (hF.tmp 32 rfl) (hF.tmp 34 rfl)) ?_; clear hF; intro a hF
      refine wpList_nil ?_
      refine hK10 _ _ ?_
      refine wp_cond_split (hF.tmp 35 rfl) (fun hc35 => ?_) (fun hc35 => ?_)
      · have hk35_1 := hc35; try simp only [Bool.or_eq_true, Bool.and_eq_true, Bool.or_eq_false_iff, Bool.and_eq_false_iff, Bool.not_eq_true', Bool.not_eq_false', decide_eq_true_eq, decide_eq_false_iff_not, Bool.not_true, Bool.not_false] at hc35
        refine wp_seq_k fun khK11 hK11 => ?_
        refine wp_region_lit ?_
        refine l_at hF rfl rfl rfl (x_loadn ty30 (hF.tmp 6 rfl) rfl (blk_whole (hH.at 6 rfl))) ?_; clear hF; intro a hF
        refine l_at hF rfl rfl rfl (x_move (hF.tmp 7 rfl)) ?_; clear hF; intro a hF
        refine wpList_plain rfl fun K hK => ?_
        refine w_storeA 4 hH ty30 rfl (hF.tmp 4 rfl) (hF.tmp 36 rfl) rfl (by simp [Value.cells, Value.oneCell']) rfl ?_
        clear hH; intro w hH
        refine hK _ _ ?_; clear hK K
        refine l_at hF rfl rfl rfl (x_assign (hF.tmp 37 rfl)) ?_; clear hF; intro a hF
        refine wpList_nil ?_
        refine hK11 _ _ ?_
        refine wp_ret ?_
        try simp only [Exit.then, Exit.inBlock]
        exact fin_ret hF (resct hF rfl rfl rfl (hH.at 4 rfl) ty30 rfl) ⟨best2, lng_end hj21_0 (by omega), rfl, hH.mods⟩
      · have hk35_2 := hc35; try simp only [Bool.or_eq_true, Bool.and_eq_true, Bool.or_eq_false_iff, Bool.and_eq_false_iff, Bool.not_eq_true', Bool.not_eq_false', decide_eq_true_eq, decide_eq_false_iff_not, Bool.not_true, Bool.not_false] at hc35
        refine wp_skip ?_
        refine hK9 _ _ ?_
        refine wp_seq_k fun khK12 hK12 => ?_
        refine r_start [(11, .ro (.blk bp (.cells #[.string (strOfNums p.lab), .pointer (valA p.val), .map (some p.mb)] 62 (0, 0)))), (12, .ro (.map KB NV p.mb p.kids noB))] (by kernel_rfl) hH fun hH => ?_
        have hS : SL [(11, .ro (.blk bp (.cells #[.string (strOfNums p.lab), .pointer (valA p.val), .map (some p.mb)] 62 (0, 0)))), (12, .ro (.map KB NV p.mb p.kids noB))] _ := SL.of hH (sub_cons (sub_cons (sub_nil _) 12 rfl) 11 rfl)
        refine r_take 0 hF rfl rfl rfl (by kernel_rfl) (by kernel_rfl) (by kernel_rfl) (fun _ _ _ h => h) rfl hS (fun w hS => x_move (hF.tmp 8 rfl)) rfl ?_; clear hF; intro a hF
        refine r_take 1 hF rfl rfl rfl (by kernel_rfl) (by kernel_rfl) (by kernel_rfl) (fun _ _ _ h => h) rfl hS (fun w hS => x_nil (hF.tmp 38 rfl)) rfl ?_; clear hF; intro a hF
        refine r_take 2 hF rfl rfl rfl (by kernel_rfl) (by kernel_rfl) (by kernel_rfl) (fun _ _ _ h => h) rfl hS (fun w hS => x_faddr Try.underlying62 rfl ty60 (by decide) (hF.tmp 39 rfl) rfl) rfl ?_; clear hF; intro a hF
        refine r_take 3 hF rfl rfl rfl (by kernel_rfl) (by kernel_rfl) (by kernel_rfl) (fun _ _ _ h => h) rfl hS (fun w hS => x_load1 ty60 (hF.tmp 40 rfl) (blk_cell (SL.atro hS 11 rfl) 2 rfl)) rfl ?_; clear hF; intro a hF
        refine r_take 4 hF rfl rfl rfl (by kernel_rfl) (by kernel_rfl) (by kernel_rfl) (fun _ _ _ h => h) rfl hS (fun w hS => x_move (hF.tmp 1 rfl)) rfl ?_; clear hF; intro a hF
        refine r_take 5 hF rfl rfl rfl (by kernel_rfl) (by kernel_rfl) (by kernel_rfl) (fun _ _ _ h => h) rfl hS (fun w hS => x_move (hF.tmp 9 rfl)) rfl ?_; clear hF; intro a hF
        refine r_take 6 hF rfl rfl rfl (by kernel_rfl) (by kernel_rfl) (by kernel_rfl) (fun _ _ _ h => h) rfl hS (fun w hS => x_idxS (xs := key) Try.underlying9 (hF.tmp 42 rfl) (hF.tmp 43 rfl) hkb (by omega) (by omega)) rfl ?_; clear hF; intro a hF
        refine r_take 7 hF rfl rfl rfl (by kernel_rfl) (by kernel_rfl) (by kernel_rfl) (fun _ _ _ h => h) rfl hS (fun w hS => x_lookF (enc := ptrV) (x0 := 0) (k := (gi key (p.path.length : Int))) (hS 12 _ rfl) Try.underlying60 Try.underlying5 (ty56).zero (hF.tmp 41 rfl) (hF.tmp 44 rfl)) rfl ?_; clear hF; intro a hF
        refine r_take 8 hF rfl rfl rfl (by kernel_rfl) (by kernel_rfl) (by kernel_rfl) (fun _ _ _ h => h) rfl hS (fun w hS => x_assign (hF.tmp 45 rfl)) rfl ?_; clear hF; intro a hF
        refine r_end (by kernel_rfl) ?_; clear hS
        refine hK12 _ _ ?_
        refine wp_seq_k fun khK13 hK13 => ?_
        refine wp_seq_k fun khK14 hK14 => ?_
        refine r_start [(11, .ro (.blk bp (.cells #[.string (strOfNums p.lab), .pointer (valA p.val), .map (some p.mb)] 62 (0, 0))))] (by kernel_rfl) hH fun hH => ?_
        have hS : SL [(11, .ro (.blk bp (.cells #[.string (strOfNums p.lab), .pointer (valA p.val), .map (some p.mb)] 62 (0, 0))))] _ := SL.of hH (sub_cons (sub_nil _) 11 rfl)
        refine r_take 0 hF rfl rfl rfl (by kernel_rfl) (by kernel_rfl) (by kernel_rfl) (fun _ _ _ h => h) rfl hS (fun w hS => x_move (hF.tmp 8 rfl)) rfl ?_; clear hF; intro a hF
        refine r_take 1 hF rfl rfl rfl (by kernel_rfl) (by kernel_rfl) (by kernel_rfl) (fun _ _ _ h => h) rfl hS (fun w hS => x_ptrnil (pa := (ptrA ((al p.kids (gi key (p.path.length : Int))).getD 0))) Try.underlying56 (hF.tmp 46 rfl) rfl) rfl ?_; clear hF; intro a hF
        refine r_take 2 hF rfl rfl rfl (by kernel_rfl) (by kernel_rfl) (by kernel_rfl) (fun _ _ _ h => h) rfl hS (fun w hS => x_move (hF.tmp 47 rfl)) rfl ?_; clear hF; intro a hF
        refine split_bool hF 48 rfl (fun hb48 => ?_) (fun hb48 => ?_)
        · have hc48 := hb48; try simp only [Bool.or_eq_true, Bool.and_eq_true, Bool.or_eq_false_iff, Bool.and_eq_false_iff, Bool.not_eq_true', Bool.not_eq_false', decide_eq_true_eq, decide_eq_false_iff_not, Bool.not_true, Bool.not_false] at hc48
          have hkn := hw.kidNone hq0_0 hpos hc48
          refine r_off 3 hF rfl rfl rfl (by kernel_rfl) (by kernel_rfl) (by kernel_rfl) (fun _ _ _ h => h) ((wanted_of hF rfl rfl rfl rfl).trans (by rw [hb48]; rfl)) hS rfl ?_; clear hF; intro a hF
          refine r_off 4 hF rfl rfl rfl (by kernel_rfl) (by kernel_rfl) (by kernel_rfl) (fun _ _ _ h => h) ((wanted_of hF rfl rfl rfl rfl).trans (by rw [hb48]; rfl)) hS rfl ?_; clear hF; intro a hF
          refine r_off 5 hF rfl rfl rfl (by kernel_rfl) (by kernel_rfl) (by kernel_rfl) (fun _ _ _ h => h) ((wanted_of hF rfl rfl rfl rfl).trans (by rw [hb48]; rfl)) hS rfl ?_; clear hF; intro a hF
          refine r_off 6 hF rfl rfl rfl (by kernel_rfl) (by kernel_rfl) (by kernel_rfl) (fun _ _ _ h => h) ((wanted_of hF rfl rfl rfl rfl).trans (by rw [hb48]; rfl)) hS rfl ?_; clear hF; intro a hF
          refine r_off 7 hF rfl rfl rfl (by kernel_rfl) (by kernel_rfl) (by kernel_rfl) (fun _ _ _ h => h) ((wanted_of hF rfl rfl rfl rfl).trans (by rw [hb48]; rfl)) hS rfl ?_; clear hF; intro a hF
          refine r_off 8 hF rfl rfl rfl (by kernel_rfl) (by kernel_rfl) (by kernel_rfl) (fun _ _ _ h => h) ((wanted_of hF rfl rfl rfl rfl).trans (by rw [hb48]; rfl)) hS rfl ?_; clear hF; intro a hF
          refine r_off 9 hF rfl rfl rfl (by kernel_rfl) (by kernel_rfl) (by kernel_rfl) (fun _ _ _ h => h) ((wanted_of hF rfl rfl rfl rfl).trans (by rw [hb48]; rfl)) hS rfl ?_; clear hF; intro a hF
          refine r_off 10 hF rfl rfl rfl (by kernel_rfl) (by kernel_rfl) (by kernel_rfl) (fun _ _ _ h => h) ((wanted_of hF rfl rfl rfl rfl).trans (by rw [hb48]; rfl)) hS rfl ?_; clear hF; intro a hF
          refine r_off 11 hF rfl rfl rfl (by kernel_rfl) (by kernel_rfl) (by kernel_rfl) (fun _ _ _ h => h) ((wanted_of hF rfl rfl rfl rfl).trans (by rw [hb48]; rfl)) hS rfl ?_; clear hF; intro a hF
          refine r_take 12 hF rfl rfl rfl (by kernel_rfl) (by kernel_rfl) (by kernel_rfl) (fun _ _ _ h => h) rfl hS (fun w hS => x_pickT (hF.tmp 48 rfl) hb48 rfl) rfl ?_; clear hF; intro a hF
          refine r_end (by kernel_rfl) ?_; clear hS
          refine hK14 _ _ ?_
          refine wp_cond_true (hF.tmp 58 rfl) ?_
          refine wp_seq_k fun khK15 hK15 => ?_
          refine wp_region_lit ?_
          refine l_at hF rfl rfl rfl (x_loadn ty30 (hF.tmp 6 rfl) rfl (blk_whole (hH.at 6 rfl))) ?_; clear hF; intro a hF
          refine l_at hF rfl rfl rfl (x_move (hF.tmp 7 rfl)) ?_; clear hF; intro a hF
          refine wpList_plain rfl fun K hK => ?_
          refine w_storeA 4 hH ty30 rfl (hF.tmp 4 rfl) (hF.tmp 59 rfl) rfl (by simp [Value.cells, Value.oneCell']) rfl ?_
          clear hH; intro w hH
          refine hK _ _ ?_; clear hK K
          refine l_at hF rfl rfl rfl (x_assign (hF.tmp 60 rfl)) ?_; clear hF; intro a hF
          refine wpList_nil ?_
          refine hK15 _ _ ?_
          refine wp_ret ?_
          try simp only [Exit.then, Exit.inBlock]
          exact fin_ret hF (resct hF rfl rfl rfl (hH.at 4 rfl) ty30 rfl) ⟨best2, lng_miss he hw hq0_0 hq0_1 (by omega) hj21_0 hkn, rfl, hH.mods⟩
        · have hc48 := hb48; try simp only [Bool.or_eq_true, Bool.and_eq_true, Bool.or_eq_false_iff, Bool.and_eq_false_iff, Bool.not_eq_true', Bool.not_eq_false', decide_eq_true_eq, decide_eq_false_iff_not, Bool.not_true, Bool.not_false] at hc48
          obtain ⟨q, hq, hkq⟩ := hw.kidSome hq0_0 hc48
          obtain ⟨bq, hbq, hH⟩ := hH.arRo 3 21 22 24 (by decide) rfl hq
          rw [kidV hkq hbq] at hF
          refine r_take 3 hF rfl rfl rfl (by kernel_rfl) (by kernel_rfl) (by kernel_rfl) (fun _ _ _ h => h) ((wanted_of hF rfl rfl rfl rfl).trans (by rw [hb48]; rfl)) hS (fun w hS => x_move (hF.tmp 1 rfl)) rfl ?_; clear hF; intro a hF
          refine r_more [(21, .ro (.blk bq (.cells #[.string (strOfNums q.lab), .pointer (valA q.val), .map (some q.mb)] 62 (0, 0)))), (11, .ro (.blk bp (.cells #[.string (strOfNums p.lab), .pointer (valA p.val), .map (some p.mb)] 62 (0, 0))))] (sub_cons (sub_nil _) 11 rfl) ?_
          clear hS; have hS : SL [(21, .ro (.blk bq (.cells #[.string (strOfNums q.lab), .pointer (valA q.val), .map (some q.mb)] 62 (0, 0)))), (11, .ro (.blk bp (.cells #[.string (strOfNums p.lab), .pointer (valA p.val), .map (some p.mb)] 62 (0, 0))))] _ := SL.of hH (sub_cons (sub_cons (sub_nil _) 11 rfl) 21 rfl)
          refine r_take 4 hF rfl rfl rfl (by kernel_rfl) (by kernel_rfl) (by kernel_rfl) (fun _ _ _ h => h) ((wanted_of hF rfl rfl rfl rfl).trans (by rw [hb48]; rfl)) hS (fun w hS => x_move (hF.tmp 9 rfl)) rfl ?_; clear hF; intro a hF
          refine r_take 5 hF rfl rfl rfl (by kernel_rfl) (by kernel_rfl) (by kernel_rfl) (fun _ _ _ h => h) ((wanted_of hF rfl rfl rfl rfl).trans (by rw [hb48]; rfl)) hS (fun w hS => x_sliceSl (xs := key) Try.underlying9 (hF.tmp 49 rfl) (hF.tmp 50 rfl) (by omega) (by omega)) rfl ?_; clear hF; intro a hF
          refine r_take 6 hF rfl rfl rfl (by kernel_rfl) (by kernel_rfl) (by kernel_rfl) (fun _ _ _ h => h) ((wanted_of hF rfl rfl rfl rfl).trans (by rw [hb48]; rfl)) hS (fun w hS => x_move (hF.tmp 8 rfl)) rfl ?_; clear hF; intro a hF
          refine r_take 7 hF rfl rfl rfl (by kernel_rfl) (by kernel_rfl) (by kernel_rfl) (fun _ _ _ h => h) ((wanted_of hF rfl rfl rfl rfl).trans (by rw [hb48]; rfl)) hS (fun w hS => x_nil (hF.tmp 52 rfl)) rfl ?_; clear hF; intro a hF
          refine r_take 8 hF rfl rfl rfl (by kernel_rfl) (by kernel_rfl) (by kernel_rfl) (fun _ _ _ h => h) ((wanted_of hF rfl rfl rfl rfl).trans (by rw [hb48]; rfl)) hS (fun w hS => x_faddr Try.underlying62 rfl ty9 (by decide) (hF.tmp 53 rfl) rfl) rfl ?_; clear hF; intro a hF
          refine r_take 9 hF rfl rfl rfl (by kernel_rfl) (by kernel_rfl) (by kernel_rfl) (fun _ _ _ h => h) ((wanted_of hF rfl rfl rfl rfl).trans (by rw [hb48]; rfl)) hS (fun w hS => x_load1 ty9 (hF.tmp 54 rfl) (blk_cell (SL.atro hS 21 rfl) 0 rfl)) rfl ?_; clear hF; intro a hF
          refine r_do 10 rfl (by kernel_rfl) ((wanted_of hF rfl rfl rfl rfl).trans (by rw [hb48]; rfl)) rfl ?_
          refine w_call hF (x_enter Try.func30 (by kernel_rfl) rfl (by simp only [List.map_toArray, List.map_cons, List.map_nil, hF.tmp 51 rfl, hF.tmp 55 rfl] <;> rfl)) (pre_calls _ (hkb.drop _) (hw.byte q hq).2.2.1 (by rw [List.length_drop]; omega) (Nat.le_trans (hw.byte q hq).2.2.2 (by decide))) rfl rfl ?_
          rintro _ w ⟨rfl, hm_⟩; refine ⟨_, rfl, ?_⟩; clear hF; intro a hF; have hH := hH.same hm_
          clear hS; have hS : SL _ _ := SL.of hH (sub_cons (sub_cons (sub_nil _) 11 rfl) 21 rfl); refine ⟨hS, ?_⟩
          refine r_take 11 hF rfl rfl rfl (by kernel_rfl) (by kernel_rfl) (by kernel_rfl) (fun _ _ _ h => h) ((wanted_of hF rfl rfl rfl rfl).trans (by rw [hb48]; rfl)) hS (fun w hS => x_not (hF.tmp 56 rfl)) rfl ?_; clear hF; intro a hF
          refine r_take 12 hF rfl rfl rfl (by kernel_rfl) (by kernel_rfl) (by kernel_rfl) (fun _ _ _ h => h) rfl hS (fun w hS => x_pickF (hF.tmp 48 rfl) hb48 (hF.tmp 57 rfl)) rfl ?_; clear hF; intro a hF
          refine r_end (by kernel_rfl) ?_; clear hS
          refine hK14 _ _ ?_
          refine wp_cond_split (hF.tmp 58 rfl) (fun hc58 => ?_) (fun hc58 => ?_)
          · have hk58_3 := hc58; try simp only [Bool.or_eq_true, Bool.and_eq_true, Bool.or_eq_false_iff, Bool.and_eq_false_iff, Bool.not_eq_true', Bool.not_eq_false', decide_eq_true_eq, decide_eq_false_iff_not, Bool.not_true, Bool.not_false] at hc58
            refine wp_seq_k fun khK16 hK16 => ?_
            refine wp_region_lit ?_
            refine l_at hF rfl rfl rfl (x_loadn ty30 (hF.tmp 6 rfl) rfl (blk_whole (hH.at 6 rfl))) ?_; clear hF; intro a hF
            refine l_at hF rfl rfl rfl (x_move (hF.tmp 7 rfl)) ?_; clear hF; intro a hF
            refine wpList_plain rfl fun K hK => ?_
            refine w_storeA 4 hH ty30 rfl (hF.tmp 4 rfl) (hF.tmp 59 rfl) rfl (by simp [Value.cells, Value.oneCell']) rfl ?_
            clear hH; intro w hH
            refine hK _ _ ?_; clear hK K
            refine l_at hF rfl rfl rfl (x_assign (hF.tmp 60 rfl)) ?_; clear hF; intro a hF
            refine wpList_nil ?_
            refine hK16 _ _ ?_
            refine wp_ret ?_
            try simp only [Exit.then, Exit.inBlock]
            exact fin_ret hF (resct hF rfl rfl rfl (hH.at 4 rfl) ty30 rfl) ⟨best2, lng_odd he hw hq0_0 hq hq0_1 (by omega) hj21_0 hkq hc58, rfl, hH.mods⟩
          · have hk58_4 := hc58; try simp only [Bool.or_eq_true, Bool.and_eq_true, Bool.or_eq_false_iff, Bool.and_eq_false_iff, Bool.not_eq_true', Bool.not_eq_false', decide_eq_true_eq, decide_eq_false_iff_not, Bool.not_true, Bool.not_false] at hc58
            have hpre : q.lab <+: key.drop p.path.length := hc58
            have hqle := kid_len hw hq0_0 hq hkq
            have hqk := (kid_pre hw hq0_0 hq hq0_1 hkq hpre).length_le
            refine wp_skip ?_
            refine hK13 _ _ ?_
            refine wp_region_lit ?_
            refine l_at hF rfl rfl rfl (x_move (hF.tmp 9 rfl)) ?_; clear hF; intro a hF
            refine l_at hF rfl rfl rfl (x_move (hF.tmp 8 rfl)) ?_; clear hF; intro a hF
            refine l_at hF rfl rfl rfl (x_nil (hF.tmp 62 rfl)) ?_; clear hF; intro a hF
            refine l_at hF rfl rfl rfl (x_faddr Try.underlying62 rfl ty9 (by decide) (hF.tmp 63 rfl) rfl) ?_; clear hF; intro a hF
            refine l_at hF rfl rfl rfl (x_load1 ty9 (hF.tmp 64 rfl) (blk_cell (hH.atro 21 rfl) 0 rfl)) ?_; clear hF; intro a hF
            refine l_at hF rfl rfl rfl (x_len_sn (xs := q.lab) Try.underlying9 (hF.tmp 65 rfl)) ?_; clear hF; intro a hF
            refine l_at hF rfl rfl rfl (x_add (hF.tmp 61 rfl) (hF.tmp 66 rfl) (w64 (by omega) (by omega))) ?_; clear hF; intro a hF
            refine l_at hF rfl rfl rfl (x_assign (hF.tmp 67 rfl)) ?_; clear hF; intro a hF
            refine wpList_nil ?_
            rw [← ptrV_of hbq] at hF
            rw [show ((p.path.length : Int) + (q.lab.length : Int)) = (q.path.length : Int) from by omega] at hF
            exact ⟨_, (by have := (kid_pre hw hq0_0 hq hq0_1 hkq hpre).length_le; omega), ⟨q, best2, rfl, hq, kid_pre hw hq0_0 hq hq0_1 hkq hpre, lng_down he hw hq0_0 hq hq0_1 (by omega) hj21_0 hkq, ((((((hF.bare.add hF 9 rfl).add hF 8 rfl).add hF 7 rfl).add hF 6 rfl).add hF 4 rfl).add hF 1 rfl), hH.sub _ (sub_cons (sub_cons (sub_cons (sub_cons (sub_nil _) 6 rfl) 4 rfl) 3 rfl) 1 rfl)⟩⟩
    refine wp_cond_split (hF.tmp 21 rfl) (fun hc21 => ?_) (fun hc21 => ?_)
    · have hk21_5 := hc21; try simp only [Bool.or_eq_true, Bool.and_eq_true, Bool.or_eq_false_iff, Bool.and_eq_false_iff, Bool.not_eq_true', Bool.not_eq_false', decide_eq_true_eq, decide_eq_false_iff_not, Bool.not_true, Bool.not_false] at hc21
      obtain ⟨bv, v, hv⟩ := valA_some hc21
      have hH := hH.vroAt 14 rfl hv
      refine r_start [(11, .ro (.blk bp (.cells #[.string (strOfNums p.lab), .pointer (valA p.val), .map (some p.mb)] 62 (0, 0)))), (14, .ro (.blk bv (.cells #[.string (strOfNums v)] 9 (0, 0))))] (by kernel_rfl) hH fun hH => ?_
      have hS : SL [(11, .ro (.blk bp (.cells #[.string (strOfNums p.lab), .pointer (valA p.val), .map (some p.mb)] 62 (0, 0)))), (14, .ro (.blk bv (.cells #[.string (strOfNums v)] 9 (0, 0))))] _ := SL.of hH (sub_cons (sub_cons (sub_nil _) 14 rfl) 11 rfl)
      refine r_take 0 hF rfl rfl rfl (by kernel_rfl) (by kernel_rfl) (by kernel_rfl) (fun _ _ _ h => h) rfl hS (fun w hS => x_move (hF.tmp 1 rfl)) rfl ?_; clear hF; intro a hF
      refine r_take 1 hF rfl rfl rfl (by kernel_rfl) (by kernel_rfl) (by kernel_rfl) (fun _ _ _ h => h) rfl hS (fun w hS => x_move (hF.tmp 9 rfl)) rfl ?_; clear hF; intro a hF
      refine r_take 2 hF rfl rfl rfl (by kernel_rfl) (by kernel_rfl) (by kernel_rfl) (fun _ _ _ h => h) rfl hS (fun w hS => x_sliceS (xs := key) Try.underlying9 (hF.tmp 22 rfl) (hF.tmp 23 rfl) (by omega) (by omega)) rfl ?_; clear hF; intro a hF
      rw [take_pre hq0_1] at hF
      refine r_take 3 hF rfl rfl rfl (by kernel_rfl) (by kernel_rfl) (by kernel_rfl) (fun _ _ _ h => h) rfl hS (fun w hS => x_move (hF.tmp 8 rfl)) rfl ?_; clear hF; intro a hF
      refine r_take 4 hF rfl rfl rfl (by kernel_rfl) (by kernel_rfl) (by kernel_rfl) (fun _ _ _ h => h) rfl hS (fun w hS => x_nil (hF.tmp 25 rfl)) rfl ?_; clear hF; intro a hF
      refine r_take 5 hF rfl rfl rfl (by kernel_rfl) (by kernel_rfl) (by kernel_rfl) (fun _ _ _ h => h) rfl hS (fun w hS => x_faddr Try.underlying62 rfl ty59 (by decide) (hF.tmp 26 rfl) rfl) rfl ?_; clear hF; intro a hF
      refine r_take 6 hF rfl rfl rfl (by kernel_rfl) (by kernel_rfl) (by kernel_rfl) (fun _ _ _ h => h) rfl hS (fun w hS => x_load1 ty59 (hF.tmp 27 rfl) (blk_cell (SL.atro hS 11 rfl) 1 rfl)) rfl ?_; clear hF; intro a hF
      rw [valA_of hv] at hF
      refine r_take 7 hF rfl rfl rfl (by kernel_rfl) (by kernel_rfl) (by kernel_rfl) (fun _ _ _ h => h) rfl hS (fun w hS => x_nil (hF.tmp 28 rfl)) rfl ?_; clear hF; intro a hF
      refine r_take 8 hF rfl rfl rfl (by kernel_rfl) (by kernel_rfl) (by kernel_rfl) (fun _ _ _ h => h) rfl hS (fun w hS => x_load1 ty9 (hF.tmp 29 rfl) (blk_cell (SL.atro hS 14 rfl) 0 rfl)) rfl ?_; clear hF; intro a hF
      refine r_take 9 hF rfl rfl rfl (by kernel_rfl) (by kernel_rfl) (by kernel_rfl) (fun _ _ _ h => h) rfl hS (fun w hS => x_buildS (cells := #[.string (strOfNums p.path), .string (strOfNums v)]) (places := #[(0, 1), (1, 1)]) Try.underlying30 ty30 (by kernel_rfl) (by simp only [List.map_toArray, List.map_cons, List.map_nil, hF.tmp 24 rfl, hF.tmp 30 rfl] <;> rfl) rfl) rfl ?_; clear hF; intro a hF
      refine r_do 10 rfl (by kernel_rfl) rfl rfl ?_
      refine w_storeA 6 hH ty30 rfl (hF.tmp 6 rfl) (hF.tmp 31 rfl) rfl (by simp [Value.cells, Value.oneCell']) rfl ?_
      clear hH; intro w hH
      clear hS; have hS : SL _ _ := SL.of hH (sub_cons (sub_cons (sub_nil _) 14 rfl) 11 rfl); refine ⟨hS, ?_⟩
      refine r_take 11 hF rfl rfl rfl (by kernel_rfl) (by kernel_rfl) (by kernel_rfl) (fun _ _ _ h => h) rfl hS (fun w hS => x_assign rfl) rfl ?_; clear hF; intro a hF
      refine r_end (by kernel_rfl) ?_; clear hS
      exact hJ21 _ _ (some (p.path, v)) (LngOf.val he hq0_0 hq0_2 hq0_1 hv) ((((((hF.bare.add hF 9 rfl).add hF 8 rfl).add hF 7 rfl).add hF 6 rfl).add hF 4 rfl).add hF 1 rfl) (hH.sub _ (sub_cons (sub_cons (sub_cons (sub_cons (sub_cons (sub_cons (sub_nil _) 12 rfl) 11 rfl) 6 rfl) 4 rfl) 3 rfl) 1 rfl))
    · have hk21_6 := hc21; try simp only [Bool.or_eq_true, Bool.and_eq_true, Bool.or_eq_false_iff, Bool.and_eq_false_iff, Bool.not_eq_true', Bool.not_eq_false', decide_eq_true_eq, decide_eq_false_iff_not, Bool.not_true, Bool.not_false] at hc21
      refine wp_skip ?_
      exact hJ21 _ _ best (LngOf.noval he hw hq0_0 hq0_2 hq0_1 (valA_none (by simpa using hc21))) ((((((hF.bare.add hF 9 rfl).add hF 8 rfl).add hF 7 rfl).add hF 6 rfl).add hF 4 rfl).add hF 1 rfl) (hH.sub _ (sub_cons (sub_cons (sub_cons (sub_cons (sub_cons (sub_cons (sub_nil _) 12 rfl) 11 rfl) 6 rfl) 4 rfl) 3 rfl) 1 rfl))

set_option maxRecDepth 100000 in
set_option maxHeartbeats 1000000 in
theorem longest_nil (w0 : World) (key : List Int) : Calls Try.prog 20 #[.pointer none, .string (strOfNums key)] w0 fun e w' => e = .returned (.tuple #[.agg #[.string (strOfNums []), .string (strOfNums [])], .bool false]) ∧ Mods (fun _ => False) w0 w' := by
  refine calls_of_wp Try.func20 rfl ?_
  have hF := Fr.enter #[.pointer none, .string (strOfNums key)] 68 (slotsOf [.pointer none, .string (strOfNums key)] 0) (Nat.le_of_ble_eq_true rfl) (fun i v h => by have h2 := (get_slotsOf _ 0 i v h).2; simpa only [List.getElem?_toArray, Nat.sub_zero] using h2)
  have hH := Hp.nil (fun _ => False) w0
  rw [Try.ntmps20]
  revert hF; generalize (⟨(#[.pointer none, .string (strOfNums key)] : Array Value) ++ Array.replicate (68 - (#[.pointer none, .string (strOfNums key)] : Array Value).size) undef, []⟩ : Act) = a; intro hF
  refine wp_seq_k fun khK1 hK1 => ?_
  refine wp_region_lit ?_
  refine wpList_plain rfl fun K hK => ?_
  refine w_alloc 4 hF hH rfl ty30 ?_
  clear hF hH; intro a w b4 hF hH
  refine hK _ _ ?_; clear hK K
  refine l_at hF rfl rfl rfl (x_assign rfl) ?_; clear hF; intro a hF
  refine wpList_nil ?_
  refine hK1 _ _ ?_
  refine wp_seq_k fun khK2 hK2 => ?_
  refine wp_seq_k fun khK3 hK3 => ?_
  refine wp_region_lit ?_
  refine l_at hF rfl rfl rfl (x_move (hF.tmp 0 rfl)) ?_; clear hF; intro a hF
  refine l_at hF rfl rfl rfl (x_ptrnil Try.underlying23 (hF.tmp 10 rfl) rfl) ?_; clear hF; intro a hF
  refine wpList_nil ?_
  refine hK3 _ _ ?_
  refine wp_cond_true (hF.tmp 11 rfl) ?_
  refine wp_seq_k fun khK4 hK4 => ?_
  refine wp_region_lit ?_
  refine l_at hF rfl rfl rfl (x_buildS (cells := #[.string (strOfNums []), .string (strOfNums [])]) (places := #[(0, 1), (1, 1)]) Try.underlying30 ty30 (by kernel_rfl) Array.map_empty rfl) ?_; clear hF; intro a hF
  refine wpList_plain rfl fun K hK => ?_
  refine w_storeA 4 hH ty30 rfl (hF.tmp 4 rfl) (hF.tmp 12 rfl) rfl (by simp [Value.cells, Value.oneCell']) rfl ?_
  clear hH; intro w hH
  refine hK _ _ ?_; clear hK K
  refine l_at hF rfl rfl rfl (x_assign rfl) ?_; clear hF; intro a hF
  refine wpList_nil ?_
  refine hK4 _ _ ?_
  refine wp_ret ?_
  try simp only [Exit.then, Exit.inBlock]
  exact fin_ret hF (resct hF rfl rfl rfl (hH.at 4 rfl) ty30 rfl) ⟨rfl, hH.mods⟩

set_option maxRecDepth 100000 in
set_option maxHeartbeats 1000000 in
theorem put_calls (w0 : World) {X : Asn} {tb : Nat} {l : List Ent} (hX : TrieA 58 62 9 tb l X) (hok : X.ok w0) {key v : List Int} (hkb : Byte key) (hkl : key.length ≤ 1000000) (hvb : Byte v) (hvl : v.length ≤ 1000000) (hll : l.length ≤ 1000000) : Calls Try.prog 15 #[.pointer (some ⟨tb, 0, none⟩), .string (strOfNums key), .string (strOfNums v)] w0 fun e w' => ∃ X', e = .returned (.tuple #[.string (strOfNums ((al l key).getD [])), .bool (al l key).isSome]) ∧ TrieA 58 62 9 tb (putL l key v) X' ∧ Grew (fun _ => False) (fun _ => False) X w0 w' X' := by
  obtain ⟨S, root, rfl, hw, hm, he⟩ := hX
  obtain ⟨p0, hp0, rfl, hb0⟩ := hw.root
  refine calls_of_wp Try.func15 rfl ?_
  have hF := Fr.enter #[.pointer (some ⟨tb, 0, none⟩), .string (strOfNums key), .string (strOfNums v)] 125 (slotsOf [.pointer (some ⟨tb, 0, none⟩), .string (strOfNums key), .string (strOfNums v)] 0) (Nat.le_of_ble_eq_true rfl) (fun i v h => by have h2 := (get_slotsOf _ 0 i v h).2; simpa only [List.getElem?_toArray, Nat.sub_zero] using h2)
  rw [Try.ntmps15]
  revert hF; generalize (⟨(#[.pointer (some ⟨tb, 0, none⟩), .string (strOfNums key), .string (strOfNums v)] : Array Value) ++ Array.replicate (125 - (#[.pointer (some ⟨tb, 0, none⟩), .string (strOfNums key), .string (strOfNums v)] : Array Value).size) undef, []⟩ : Act) = a; intro hF
  have hH := Hp.ofAll hok.holds
  have hSl : S.length ≤ 2 * l.length + 1 := by rw [hw.count hm he]; exact nodesL_le l
  refine wp_seq_k fun khK1 hK1 => ?_
  refine wp_region_lit ?_
  refine wpList_plain rfl fun K hK => ?_
  refine w_box 5 hF hH rfl (hF.tmp 2 rfl) ?_
  clear hF hH; intro a w b5 hF hH
  refine hK _ _ ?_; clear hK K
  refine l_at hF rfl rfl rfl (x_assign (show _ = Value.string (strOfNums ([] : List Int)) by kernel_rfl)) ?_; clear hF; intro a hF
  refine l_at hF rfl rfl rfl (x_assign rfl) ?_; clear hF; intro a hF
  refine wpList_nil ?_
  refine hK1 _ _ ?_
  refine wp_seq_k fun khK2 hK2 => ?_
  refine wp_seq_k fun khK3 hK3 => ?_
  refine wp_region_lit ?_
  refine l_at hF rfl rfl rfl (x_move (hF.tmp 0 rfl)) ?_; clear hF; intro a hF
  refine l_at hF rfl rfl rfl (x_ptrnil Try.underlying23 (hF.tmp 13 rfl) rfl) ?_; clear hF; intro a hF
  refine wpList_nil ?_
  refine hK3 _ _ ?_
  refine wp_cond_false (hF.tmp 14 rfl) ?_
  refine wp_skip ?_
  refine hK2 _ _ ?_
  refine wp_seq_k fun khK4 hK4 => ?_
  refine wp_region_lit ?_
  refine l_at hF rfl rfl rfl (x_move (hF.tmp 0 rfl)) ?_; clear hF; intro a hF
  refine l_at hF rfl rfl rfl (x_nil (hF.tmp 15 rfl)) ?_; clear hF; intro a hF
  refine l_at hF rfl rfl rfl (x_faddr Try.underlying58 rfl ty56 (by decide) (hF.tmp 16 rfl) rfl) ?_; clear hF; intro a hF
  refine l_at hF rfl rfl rfl (x_load1 ty56 (hF.tmp 17 rfl) (blk_cell (hH.at 1 rfl) 0 rfl)) ?_; clear hF; intro a hF
  refine l_at hF rfl rfl rfl (x_assign (hF.tmp 18 rfl)) ?_; clear hF; intro a hF
  refine wpList_nil ?_
  refine hK4 _ _ ?_
  refine wp_seq_k fun khK5 hK5 => ?_
  refine wp_block ?_
  refine wp_loop_ghost (fun n_ a w => ∃ S1 : List TRec, ∃ p : TRec, ∃ rest : List Int, n_ = rest.length ∧ (WF S1 [] p0.nb) ∧ (MinBut S1 [] p.path) ∧ (EntOf S1 l) ∧ (p ∈ S1) ∧ (key = p.path ++ rest) ∧ (rest ≠ [] → Ex p [] rest) ∧ (∀ r ∈ S1, ∀ k v, r.val = some (k, v) → ∃ r0 ∈ S, r0.val = some (k, v)) ∧ (S1.length + rest.length ≤ S.length + key.length) ∧ Fr 125 a [(0, .pointer (some ⟨tb, 0, none⟩)), (1, .string (strOfNums rest)), (5, .pointer (some ⟨b5, 0, none⟩)), (8, ptrV p.nb)] ∧ Hp (OwnL [(1, .blk tb (.cells #[ptrV p0.nb, .int .i64 (l.length : Int), .int .i64 (S.length : Int)] 58 (0, 0))), (3, .arena 62 9 S)]) w0 w [(1, .blk tb (.cells #[ptrV p0.nb, .int .i64 (l.length : Int), .int .i64 (S1.length : Int)] 58 (0, 0))), (3, .arena 62 9 S1), (5, .blk b5 (.cells #[.string (strOfNums v)] 9 (0, 0)))]) (key.length) ?_ ?_
  · exact ⟨S, p0, key, rfl, hw, (by rw [hb0]; exact hm), he, hp0, (by rw [hb0]; rfl), (fun _ => .inl hb0), (fun r hr k v h => ⟨r, hr, h⟩), (Nat.le_refl _), ((((hF.bare.add hF 8 rfl).add hF 5 rfl).add hF 1 rfl).add hF 0 rfl), hH.sub _ (sub_cons (sub_cons (sub_cons (sub_nil _) 5 rfl) 3 rfl) 1 rfl)⟩
  · rintro _ a w ⟨S1, p, rest, rfl, hq0_0, hq0_1, hq0_2, hq0_3, hq0_4, hq0_5, hq0_6, hq0_7, hF, hH⟩
    have hrb : Byte rest := fun n hn => hkb n (by rw [hq0_4]; exact List.mem_append_right _ hn)
    have hrl : rest.length ≤ key.length := by rw [hq0_4, List.length_append]; omega
    have hpos := hH.arPos 3 rfl
    obtain ⟨S2, hS2⟩ := perm_of hq0_3
    have hH := hH.arPerm 3 rfl hS2
    have hw1 := hq0_0.perm hS2
    have hm1 := hq0_1.perm hS2
    have he1 := hq0_2.perm hS2
    have hv1 : ∀ r ∈ p :: S2, ∀ k v, r.val = some (k, v) → ∃ r0 ∈ S, r0.val = some (k, v) := fun r hr => hq0_6 r (hS2.mem_iff.2 hr)
    have hpos1 : ∀ r ∈ p :: S2, r.nb ≠ 0 := fun r hr => hpos r (hS2.mem_iff.2 hr)
    obtain ⟨bp, hbp, hH⟩ := hH.arOpen 3 11 12 14 (by decide) rfl
    rw [ptrV_of hbp] at hF
    refine wp_seq_k fun khK6 hK6 => ?_
    refine wp_seq_k fun khK7 hK7 => ?_
    refine wp_region_lit ?_
    refine l_at hF rfl rfl rfl (x_move (hF.tmp 1 rfl)) ?_; clear hF; intro a hF
    refine l_at hF rfl rfl rfl (x_nen0 (xs := rest) (hF.tmp 19 rfl) (show _ = Value.string (strOfNums ([] : List Int)) by kernel_rfl)) ?_; clear hF; intro a hF
    refine wpList_nil ?_
    refine hK7 _ _ ?_
    refine wp_cond_split (hF.tmp 20 rfl) (fun hc20 => ?_) (fun hc20 => ?_)
    · have hk20_1 := hc20; try simp only [Bool.or_eq_true, Bool.and_eq_true, Bool.or_eq_false_iff, Bool.and_eq_false_iff, Bool.not_eq_true', Bool.not_eq_false', decide_eq_true_eq, decide_eq_false_iff_not, Bool.not_true, Bool.not_false] at hc20
      refine wp_skip ?_
      refine hK6 _ _ ?_
      refine wp_block ?_
      refine wp_seq_k fun khK8 hK8 => ?_
      refine r_start [(11, .blk bp (.cells #[.string (strOfNums p.lab), .pointer (valA p.val), .map (some p.mb)] 62 (0, 0)))] (by kernel_rfl) hH fun hH => ?_
      have hS : SL [(11, .blk bp (.cells #[.string (strOfNums p.lab), .pointer (valA p.val), .map (some p.mb)] 62 (0, 0)))] _ := SL.of hH (sub_cons (sub_nil _) 11 rfl)
      refine r_take 0 hF rfl rfl rfl (by kernel_rfl) (by kernel_rfl) (by kernel_rfl) (fun _ _ _ h => h) rfl hS (fun w hS => x_move (hF.tmp 8 rfl)) rfl ?_; clear hF; intro a hF
      refine r_take 1 hF rfl rfl rfl (by kernel_rfl) (by kernel_rfl) (by kernel_rfl) (fun _ _ _ h => h) rfl hS (fun w hS => x_nil (hF.tmp 21 rfl)) rfl ?_; clear hF; intro a hF
      refine r_take 2 hF rfl rfl rfl (by kernel_rfl) (by kernel_rfl) (by kernel_rfl) (fun _ _ _ h => h) rfl hS (fun w hS => x_faddr Try.underlying62 rfl ty60 (by decide) (hF.tmp 22 rfl) rfl) rfl ?_; clear hF; intro a hF
      refine r_take 3 hF rfl rfl rfl (by kernel_rfl) (by kernel_rfl) (by kernel_rfl) (fun _ _ _ h => h) rfl hS (fun w hS => x_load1 ty60 (hF.tmp 23 rfl) (blk_cell (SL.at_ hS 11 rfl) 2 rfl)) rfl ?_; clear hF; intro a hF
      refine r_take 4 hF rfl rfl rfl (by kernel_rfl) (by kernel_rfl) (by kernel_rfl) (fun _ _ _ h => h) rfl hS (fun w hS => x_move (hF.tmp 1 rfl)) rfl ?_; clear hF; intro a hF
      refine r_take 5 hF rfl rfl rfl (by kernel_rfl) (by kernel_rfl) (by kernel_rfl) (fun _ _ _ h => h) rfl hS (fun w hS => x_idxS (xs := rest) Try.underlying9 (hF.tmp 25 rfl) rfl (by assumption) (by omega) (by omega)) rfl ?_; clear hF; intro a hF
      refine r_do 6 rfl (by kernel_rfl) rfl rfl ?_
      refine w_at hF (x_lookF (enc := ptrV) (x0 := 0) (k := (gi rest 0)) (hH.map 12 rfl) Try.underlying60 Try.underlying5 (ty56).zero (hF.tmp 24 rfl) (hF.tmp 26 rfl)) rfl rfl ?_
      clear hF; intro a hF
      clear hS; have hS : SL _ _ := SL.of hH (sub_cons (sub_nil _) 11 rfl); refine ⟨hS, ?_⟩
      refine r_take 7 hF rfl rfl rfl (by kernel_rfl) (by kernel_rfl) (by kernel_rfl) (fun _ _ _ h => h) rfl hS (fun w hS => x_assign (hF.tmp 27 rfl)) rfl ?_; clear hF; intro a hF
      refine r_end (by kernel_rfl) ?_; clear hS
      refine hK8 _ _ ?_
      refine wp_seq_k fun khK9 hK9 => ?_
      refine wp_seq_k fun khK10 hK10 => ?_
      refine wp_region_lit ?_
      refine l_at hF rfl rfl rfl (x_move (hF.tmp 9 rfl)) ?_; clear hF; intro a hF
      refine l_at hF rfl rfl rfl (x_ptrnil (pa := (ptrA ((al p.kids (gi rest 0)).getD 0))) Try.underlying56 (hF.tmp 28 rfl) rfl) ?_; clear hF; intro a hF
      refine wpList_nil ?_
      refine hK10 _ _ ?_
      have hJ29 : ∀ a w, ∀ p2 : TRec, ∀ q : TRec, ∀ S3 : List TRec, ∀ bq : Nat, (p2.nb = bp + 1) → (q.nb = bq + 1) → (WF (p2 :: q :: S3) [] p0.nb) → (MinBut (p2 :: q :: S3) [] q.path) → (q.lab = rest ∨ (MinBut (p2 :: q :: S3) [] [] ∧ S3.length + 2 + rest.length ≤ S.length + key.length)) → (EntOf (p2 :: q :: S3) l) → (al p2.kids (gi rest 0) = some q.nb) → (p2.path = p.path) → (∀ r ∈ p2 :: q :: S3, ∀ k v, r.val = some (k, v) → ∃ r0 ∈ S, r0.val = some (k, v)) → (S3.length + 2 + rest.length ≤ S.length + key.length + 1) → Fr 125 a [(0, .pointer (some ⟨tb, 0, none⟩)), (1, .string (strOfNums rest)), (5, .pointer (some ⟨b5, 0, none⟩)), (8, .pointer (some ⟨bp, 0, none⟩)), (9, .pointer (some ⟨bq, 0, none⟩))] → Hp (OwnL [(1, .blk tb (.cells #[ptrV p0.nb, .int .i64 (l.length : Int), .int .i64 (S.length : Int)] 58 (0, 0))), (3, .arena 62 9 S)]) w0 w [(1, .blk tb (.cells #[ptrV p0.nb, .int .i64 (l.length : Int), .int .i64 ((p2 :: q :: S3).length : Int)] 58 (0, 0))), (3, .arena 62 9 S3), (5, .blk b5 (.cells #[.string (strOfNums v)] 9 (0, 0))), (11, .blk bp (.cells #[.string (strOfNums p2.lab), .pointer (valA p2.val), .map (some p2.mb)] 62 (0, 0))), (12, .map KB NV p2.mb p2.kids noB), (14, vro 9 p2.val), (21, .blk bq (.cells #[.string (strOfNums q.lab), .pointer (valA q.val), .map (some q.mb)] 62 (0, 0))), (22, .map KB NV q.mb q.kids noB), (24, vro 9 q.val)] → khK9 a w := by
        intro a w p2 q S3 bq hj29_0 hj29_1 hj29_2 hj29_3 hj29_4 hj29_5 hj29_6 hj29_7 hj29_8 hj29_9 hF hH
        refine hK9 a w ?_
        have hkq := hj29_6
        have hqk := hj29_2.kid' (List.mem_cons_self ..) (by simp) hkq
        have hk0 : 0 < (lcp rest q.lab).length := lcp_pos (head_gi (by omega)) hqk.2
        have hkr := (lcp_left rest q.lab).length_le
        have hkq2 := (lcp_right rest q.lab).length_le
        have hqb := hj29_2.byte q (by simp)
        refine wp_seq_k fun khK11 hK11 => ?_
        refine wp_region_lit ?_
        refine l_at hF rfl rfl rfl (x_move (hF.tmp 1 rfl)) ?_; clear hF; intro a hF
        refine l_at hF rfl rfl rfl (x_move (hF.tmp 9 rfl)) ?_; clear hF; intro a hF
        refine l_at hF rfl rfl rfl (x_nil (hF.tmp 49 rfl)) ?_; clear hF; intro a hF
        refine l_at hF rfl rfl rfl (x_faddr Try.underlying62 rfl ty9 (by decide) (hF.tmp 50 rfl) rfl) ?_; clear hF; intro a hF
        refine l_at hF rfl rfl rfl (x_load1 ty9 (hF.tmp 51 rfl) (blk_cell (hH.at 21 rfl) 0 rfl)) ?_; clear hF; intro a hF
        refine wpList_plain rfl fun K hK => ?_
        refine w_call hF (x_enter Try.func28 (by kernel_rfl) rfl (by simp only [List.map_toArray, List.map_cons, List.map_nil, hF.tmp 48 rfl, hF.tmp 52 rfl] <;> rfl)) (common_calls _ hrb hqb.2.2.1 (by omega) (Nat.le_trans hqb.2.2.2 (by decide))) rfl rfl ?_
        rintro _ w ⟨rfl, hm_⟩; refine ⟨_, rfl, ?_⟩; clear hF; intro a hF; have hH := hH.same hm_
        refine hK _ _ ?_; clear hK K
        refine l_at hF rfl rfl rfl (x_assign (hF.tmp 53 rfl)) ?_; clear hF; intro a hF
        refine wpList_nil ?_
        refine hK11 _ _ ?_
        refine wp_seq_k fun khK12 hK12 => ?_
        refine wp_seq_k fun khK13 hK13 => ?_
        refine wp_region_lit ?_
        refine l_at hF rfl rfl rfl (x_move (hF.tmp 10 rfl)) ?_; clear hF; intro a hF
        refine l_at hF rfl rfl rfl (x_move (hF.tmp 9 rfl)) ?_; clear hF; intro a hF
        refine l_at hF rfl rfl rfl (x_nil (hF.tmp 55 rfl)) ?_; clear hF; intro a hF
        refine l_at hF rfl rfl rfl (x_faddr Try.underlying62 rfl ty9 (by decide) (hF.tmp 56 rfl) rfl) ?_; clear hF; intro a hF
        refine l_at hF rfl rfl rfl (x_load1 ty9 (hF.tmp 57 rfl) (blk_cell (hH.at 21 rfl) 0 rfl)) ?_; clear hF; intro a hF
        refine l_at hF rfl rfl rfl (x_len_sn (xs := q.lab) Try.underlying9 (hF.tmp 58 rfl)) ?_; clear hF; intro a hF
        refine l_at hF rfl rfl rfl (x_lss (hF.tmp 54 rfl) (hF.tmp 59 rfl)) ?_; clear hF; intro a hF
        refine wpList_nil ?_
        refine hK13 _ _ ?_
        refine wp_cond_split (hF.tmp 60 rfl) (fun hc60 => ?_) (fun hc60 => ?_)
        · have hk60_2 := hc60; try simp only [Bool.or_eq_true, Bool.and_eq_true, Bool.or_eq_false_iff, Bool.and_eq_false_iff, Bool.not_eq_true', Bool.not_eq_false', decide_eq_true_eq, decide_eq_false_iff_not, Bool.not_true, Bool.not_false] at hc60
          have hmm := hj29_4.resolve_left (fun e => by rw [e, lcp_self] at hc60; omega)
          have hx : q.lab[(lcp rest q.lab).length]? = some (gi q.lab ((lcp rest q.lab).length : Int)) := gi_get (by omega)
          refine wp_seq_k fun khK14 hK14 => ?_
          refine r_start [(21, .blk bq (.cells #[.string (strOfNums q.lab), .pointer (valA q.val), .map (some q.mb)] 62 (0, 0)))] (by kernel_rfl) hH fun hH => ?_
          have hS : SL [(21, .blk bq (.cells #[.string (strOfNums q.lab), .pointer (valA q.val), .map (some q.mb)] 62 (0, 0)))] _ := SL.of hH (sub_cons (sub_nil _) 21 rfl)
          refine r_take 0 hF rfl rfl rfl (by kernel_rfl) (by kernel_rfl) (by kernel_rfl) (fun _ _ _ h => h) rfl hS (fun w hS => x_move (hF.tmp 9 rfl)) rfl ?_; clear hF; intro a hF
          refine r_take 1 hF rfl rfl rfl (by kernel_rfl) (by kernel_rfl) (by kernel_rfl) (fun _ _ _ h => h) rfl hS (fun w hS => x_nil (hF.tmp 61 rfl)) rfl ?_; clear hF; intro a hF
          refine r_take 2 hF rfl rfl rfl (by kernel_rfl) (by kernel_rfl) (by kernel_rfl) (fun _ _ _ h => h) rfl hS (fun w hS => x_faddr Try.underlying62 rfl ty9 (by decide) (hF.tmp 62 rfl) rfl) rfl ?_; clear hF; intro a hF
          refine r_take 3 hF rfl rfl rfl (by kernel_rfl) (by kernel_rfl) (by kernel_rfl) (fun _ _ _ h => h) rfl hS (fun w hS => x_load1 ty9 (hF.tmp 63 rfl) (blk_cell (SL.at_ hS 21 rfl) 0 rfl)) rfl ?_; clear hF; intro a hF
          refine r_take 4 hF rfl rfl rfl (by kernel_rfl) (by kernel_rfl) (by kernel_rfl) (fun _ _ _ h => h) rfl hS (fun w hS => x_move (hF.tmp 10 rfl)) rfl ?_; clear hF; intro a hF
          refine r_take 5 hF rfl rfl rfl (by kernel_rfl) (by kernel_rfl) (by kernel_rfl) (fun _ _ _ h => h) rfl hS (fun w hS => x_sliceS (xs := q.lab) Try.underlying9 (hF.tmp 64 rfl) (hF.tmp 65 rfl) (by omega) (by omega)) rfl ?_; clear hF; intro a hF
          refine r_take 7 hF rfl rfl rfl (by kernel_rfl) (by kernel_rfl) (by kernel_rfl) (fun _ _ _ h => h) rfl hS (fun w hS => x_move (hF.tmp 9 rfl)) rfl ?_; clear hF; intro a hF
          refine r_take 8 hF rfl rfl rfl (by kernel_rfl) (by kernel_rfl) (by kernel_rfl) (fun _ _ _ h => h) rfl hS (fun w hS => x_nil (hF.tmp 68 rfl)) rfl ?_; clear hF; intro a hF
          refine r_take 9 hF rfl rfl rfl (by kernel_rfl) (by kernel_rfl) (by kernel_rfl) (fun _ _ _ h => h) rfl hS (fun w hS => x_faddr Try.underlying62 rfl ty9 (by decide) (hF.tmp 69 rfl) rfl) rfl ?_; clear hF; intro a hF
          refine r_take 10 hF rfl rfl rfl (by kernel_rfl) (by kernel_rfl) (by kernel_rfl) (fun _ _ _ h => h) rfl hS (fun w hS => x_load1 ty9 (hF.tmp 70 rfl) (blk_cell (SL.at_ hS 21 rfl) 0 rfl)) rfl ?_; clear hF; intro a hF
          refine r_take 11 hF rfl rfl rfl (by kernel_rfl) (by kernel_rfl) (by kernel_rfl) (fun _ _ _ h => h) rfl hS (fun w hS => x_move (hF.tmp 10 rfl)) rfl ?_; clear hF; intro a hF
          refine r_take 12 hF rfl rfl rfl (by kernel_rfl) (by kernel_rfl) (by kernel_rfl) (fun _ _ _ h => h) rfl hS (fun w hS => x_idxS (xs := q.lab) Try.underlying9 (hF.tmp 71 rfl) (hF.tmp 72 rfl) hqb.2.2.1 (by omega) (by omega)) rfl ?_; clear hF; intro a hF
          refine r_take 13 hF rfl rfl rfl (by kernel_rfl) (by kernel_rfl) (by kernel_rfl) (fun _ _ _ h => h) rfl hS (fun w hS => x_move (hF.tmp 9 rfl)) rfl ?_; clear hF; intro a hF
          refine r_do 6 rfl (by kernel_rfl) rfl rfl ?_
          refine w_makeMap KB NV 32 hF hH rfl ?_
          clear hF hH; intro a w b67 hF hH
          clear hS; have hS : SL _ _ := SL.of hH (sub_cons (sub_nil _) 21 rfl); refine ⟨hS, ?_⟩
          refine r_do 14 rfl (by kernel_rfl) rfl rfl ?_
          refine w_mapIns 32 (k := (gi q.lab ((lcp rest q.lab).length : Int))) (yv := q.nb) (fun _ => False) hH rfl Try.underlying60 Try.underlying5 (hF.tmp 67 rfl) (hF.tmp 73 rfl) (hF.tmp 74 rfl) (ptrV_of hj29_1).symm (fun k hk => hk) (fun k hk => .inl hk) ?_
          clear hH; intro w hH
          clear hS; have hS : SL _ _ := SL.of hH (sub_cons (sub_nil _) 21 rfl); refine ⟨hS, ?_⟩
          refine r_take 15 hF rfl rfl rfl (by kernel_rfl) (by kernel_rfl) (by kernel_rfl) (fun _ _ _ h => h) rfl hS (fun w hS => x_move (hF.tmp 67 rfl)) rfl ?_; clear hF; intro a hF
          refine r_take 16 hF rfl rfl rfl (by kernel_rfl) (by kernel_rfl) (by kernel_rfl) (fun _ _ _ h => h) rfl hS (fun w hS => x_buildS (cells := #[.string (strOfNums (q.lab.take ((lcp rest q.lab).length : Int).toNat)), .pointer none, .map (some b67)]) (places := #[(0, 1), (1, 1), (2, 1)]) Try.underlying62 ty62 (by kernel_rfl) (by simp only [List.map_toArray, List.map_cons, List.map_nil, hF.tmp 66 rfl, hF.tmp 75 rfl] <;> rfl) rfl) rfl ?_; clear hF; intro a hF
          refine r_do 17 rfl (by kernel_rfl) rfl rfl ?_
          refine w_box 31 hF hH rfl (hF.tmp 76 rfl) ?_
          clear hF hH; intro a w b77 hF hH
          clear hS; have hS : SL _ _ := SL.of hH (sub_cons (sub_nil _) 21 rfl); refine ⟨hS, ?_⟩
          refine r_take 18 hF rfl rfl rfl (by kernel_rfl) (by kernel_rfl) (by kernel_rfl) (fun _ _ _ h => h) rfl hS (fun w hS => x_assign (hF.tmp 77 rfl)) rfl ?_; clear hF; intro a hF
          refine r_end (by kernel_rfl) ?_; clear hS
          refine hK14 _ _ ?_
          refine wp_seq_k fun khK15 hK15 => ?_
          refine wp_region_lit ?_
          refine l_at hF rfl rfl rfl (x_move (hF.tmp 9 rfl)) ?_; clear hF; intro a hF
          refine l_at hF rfl rfl rfl (x_move (hF.tmp 9 rfl)) ?_; clear hF; intro a hF
          refine l_at hF rfl rfl rfl (x_nil (hF.tmp 79 rfl)) ?_; clear hF; intro a hF
          refine l_at hF rfl rfl rfl (x_faddr Try.underlying62 rfl ty9 (by decide) (hF.tmp 80 rfl) rfl) ?_; clear hF; intro a hF
          refine l_at hF rfl rfl rfl (x_load1 ty9 (hF.tmp 81 rfl) (blk_cell (hH.at 21 rfl) 0 rfl)) ?_; clear hF; intro a hF
          refine l_at hF rfl rfl rfl (x_move (hF.tmp 10 rfl)) ?_; clear hF; intro a hF
          refine l_at hF rfl rfl rfl (x_sliceSl (xs := q.lab) Try.underlying9 (hF.tmp 82 rfl) (hF.tmp 83 rfl) (by omega) (by omega)) ?_; clear hF; intro a hF
          refine l_at hF rfl rfl rfl (x_nil (hF.tmp 78 rfl)) ?_; clear hF; intro a hF
          refine l_at hF rfl rfl rfl (x_faddr Try.underlying62 rfl ty9 (by decide) (hF.tmp 85 rfl) rfl) ?_; clear hF; intro a hF
          refine wpList_plain rfl fun K hK => ?_
          refine w_store 21 hH ty9 rfl (hF.tmp 86 rfl) (hF.tmp 84 rfl) rfl (one1 rfl rfl) (by first | decide | exact Nat.le_of_ble_eq_true rfl) ?_
          clear hH; intro w hH
          refine hK _ _ ?_; clear hK K
          refine wpList_nil ?_
          refine hK15 _ _ ?_
          refine wp_seq_k fun khK16 hK16 => ?_
          refine r_start [(11, .blk bp (.cells #[.string (strOfNums p2.lab), .pointer (valA p2.val), .map (some p2.mb)] 62 (0, 0)))] (by kernel_rfl) hH fun hH => ?_
          have hS : SL [(11, .blk bp (.cells #[.string (strOfNums p2.lab), .pointer (valA p2.val), .map (some p2.mb)] 62 (0, 0)))] _ := SL.of hH (sub_cons (sub_nil _) 11 rfl)
          refine r_take 0 hF rfl rfl rfl (by kernel_rfl) (by kernel_rfl) (by kernel_rfl) (fun _ _ _ h => h) rfl hS (fun w hS => x_move (hF.tmp 8 rfl)) rfl ?_; clear hF; intro a hF
          refine r_take 1 hF rfl rfl rfl (by kernel_rfl) (by kernel_rfl) (by kernel_rfl) (fun _ _ _ h => h) rfl hS (fun w hS => x_nil (hF.tmp 87 rfl)) rfl ?_; clear hF; intro a hF
          refine r_take 2 hF rfl rfl rfl (by kernel_rfl) (by kernel_rfl) (by kernel_rfl) (fun _ _ _ h => h) rfl hS (fun w hS => x_faddr Try.underlying62 rfl ty60 (by decide) (hF.tmp 88 rfl) rfl) rfl ?_; clear hF; intro a hF
          refine r_take 3 hF rfl rfl rfl (by kernel_rfl) (by kernel_rfl) (by kernel_rfl) (fun _ _ _ h => h) rfl hS (fun w hS => x_load1 ty60 (hF.tmp 89 rfl) (blk_cell (SL.at_ hS 11 rfl) 2 rfl)) rfl ?_; clear hF; intro a hF
          refine r_take 4 hF rfl rfl rfl (by kernel_rfl) (by kernel_rfl) (by kernel_rfl) (fun _ _ _ h => h) rfl hS (fun w hS => x_move (hF.tmp 1 rfl)) rfl ?_; clear hF; intro a hF
          refine r_take 5 hF rfl rfl rfl (by kernel_rfl) (by kernel_rfl) (by kernel_rfl) (fun _ _ _ h => h) rfl hS (fun w hS => x_idxS (xs := rest) Try.underlying9 (hF.tmp 91 rfl) rfl (by assumption) (by omega) (by omega)) rfl ?_; clear hF; intro a hF
          refine r_take 6 hF rfl rfl rfl (by kernel_rfl) (by kernel_rfl) (by kernel_rfl) (fun _ _ _ h => h) rfl hS (fun w hS => x_move (hF.tmp 11 rfl)) rfl ?_; clear hF; intro a hF
          refine r_do 7 rfl (by kernel_rfl) rfl rfl ?_
          refine w_mapSet 12 (k := (gi rest 0)) (yv := (b77 + 1)) noB hH rfl Try.underlying60 Try.underlying5 (hF.tmp 90 rfl) (hF.tmp 92 rfl) (hF.tmp 93 rfl) rfl (fun k hk => hk) (fun k hk => .inl hk) ?_
          clear hH; intro w hH
          clear hS; have hS : SL _ _ := SL.of hH (sub_cons (sub_nil _) 11 rfl); refine ⟨hS, ?_⟩
          refine r_end (by kernel_rfl) ?_; clear hS
          refine hK16 _ _ ?_
          refine wp_seq_k fun khK17 hK17 => ?_
          refine wp_region_lit ?_
          refine l_at hF rfl rfl rfl (x_move (hF.tmp 11 rfl)) ?_; clear hF; intro a hF
          refine l_at hF rfl rfl rfl (x_assign (hF.tmp 94 rfl)) ?_; clear hF; intro a hF
          refine wpList_nil ?_
          refine hK17 _ _ ?_
          refine wp_region_lit ?_
          refine l_at hF rfl rfl rfl (x_move (hF.tmp 0 rfl)) ?_; clear hF; intro a hF
          refine l_at hF rfl rfl rfl (x_nil (hF.tmp 95 rfl)) ?_; clear hF; intro a hF
          refine l_at hF rfl rfl rfl (x_faddr Try.underlying58 rfl ty3 (by decide) (hF.tmp 96 rfl) rfl) ?_; clear hF; intro a hF
          refine l_at hF rfl rfl rfl (x_load1 ty3 (hF.tmp 97 rfl) (blk_cell (hH.at 1 rfl) 2 rfl)) ?_; clear hF; intro a hF
          refine l_at hF rfl rfl rfl (x_add (hF.tmp 98 rfl) rfl (w64 (by simp only [List.length_cons]; omega) (by simp only [List.length_cons]; omega))) ?_; clear hF; intro a hF
          refine l_at hF rfl rfl rfl (x_nil (hF.tmp 95 rfl)) ?_; clear hF; intro a hF
          refine l_at hF rfl rfl rfl (x_faddr Try.underlying58 rfl ty3 (by decide) (hF.tmp 100 rfl) rfl) ?_; clear hF; intro a hF
          refine wpList_plain rfl fun K hK => ?_
          refine w_store 1 hH ty3 rfl (hF.tmp 101 rfl) (hF.tmp 99 rfl) rfl (one1 rfl rfl) (by first | decide | exact Nat.le_of_ble_eq_true rfl) ?_
          clear hH; intro w hH
          refine hK _ _ ?_; clear hK K
          refine wpList_nil ?_
          refine hK12 _ _ ?_
          refine r_start [(1, .blk tb (.cells #[ptrV p0.nb, .int .i64 (l.length : Int), .int .i64 (((p2 :: q :: S3).length : Int) + 1)] 58 (0, 0))), (5, .blk b5 (.cells #[.string (strOfNums v)] 9 (0, 0))), (11, .blk bp (.cells #[.string (strOfNums p2.lab), .pointer (valA p2.val), .map (some p2.mb)] 62 (0, 0))), (21, .blk bq (.cells #[.string (strOfNums (q.lab.drop ((lcp rest q.lab).length : Int).toNat)), .pointer (valA q.val), .map (some q.mb)] 62 (0, 0))), (31, .blk b77 (.cells #[.string (strOfNums (q.lab.take ((lcp rest q.lab).length : Int).toNat)), .pointer none, .map (some b67)] 62 (0, 0)))] (by kernel_rfl) hH fun hH => ?_
          have hS : SL [(1, .blk tb (.cells #[ptrV p0.nb, .int .i64 (l.length : Int), .int .i64 (((p2 :: q :: S3).length : Int) + 1)] 58 (0, 0))), (5, .blk b5 (.cells #[.string (strOfNums v)] 9 (0, 0))), (11, .blk bp (.cells #[.string (strOfNums p2.lab), .pointer (valA p2.val), .map (some p2.mb)] 62 (0, 0))), (21, .blk bq (.cells #[.string (strOfNums (q.lab.drop ((lcp rest q.lab).length : Int).toNat)), .pointer (valA q.val), .map (some q.mb)] 62 (0, 0))), (31, .blk b77 (.cells #[.string (strOfNums (q.lab.take ((lcp rest q.lab).length : Int).toNat)), .pointer none, .map (some b67)] 62 (0, 0)))] _ := SL.of hH (sub_cons (sub_cons (sub_cons (sub_cons (sub_cons (sub_nil _) 31 rfl) 21 rfl) 11 rfl) 5 rfl) 1 rfl)
          refine r_take 0 hF rfl rfl rfl (by kernel_rfl) (by kernel_rfl) (by kernel_rfl) (fun _ _ _ h => h) rfl hS (fun w hS => x_move (hF.tmp 9 rfl)) rfl ?_; clear hF; intro a hF
          refine r_take 1 hF rfl rfl rfl (by kernel_rfl) (by kernel_rfl) (by kernel_rfl) (fun _ _ _ h => h) rfl hS (fun w hS => x_move (hF.tmp 1 rfl)) rfl ?_; clear hF; intro a hF
          refine r_take 2 hF rfl rfl rfl (by kernel_rfl) (by kernel_rfl) (by kernel_rfl) (fun _ _ _ h => h) rfl hS (fun w hS => x_move (hF.tmp 10 rfl)) rfl ?_; clear hF; intro a hF
          refine r_take 3 hF rfl rfl rfl (by kernel_rfl) (by kernel_rfl) (by kernel_rfl) (fun _ _ _ h => h) rfl hS (fun w hS => x_sliceSl (xs := rest) Try.underlying9 (hF.tmp 103 rfl) (hF.tmp 104 rfl) (by omega) (by omega)) rfl ?_; clear hF; intro a hF
          refine r_take 4 hF rfl rfl rfl (by kernel_rfl) (by kernel_rfl) (by kernel_rfl) (fun _ _ _ h => h) rfl hS (fun w hS => x_assign (hF.tmp 102 rfl)) rfl ?_; clear hF; intro a hF
          refine r_take 5 hF rfl rfl rfl (by kernel_rfl) (by kernel_rfl) (by kernel_rfl) (fun _ _ _ h => h) rfl hS (fun w hS => x_assign (hF.tmp 105 rfl)) rfl ?_; clear hF; intro a hF
          refine r_end (by kernel_rfl) ?_; clear hS
          have hfr : b77 + 1 ∉ (p2 :: q :: S3).map (·.nb) := by simp only [List.map_cons, List.mem_cons, hj29_0, hj29_1]; rintro (h | h | h); (· exact hH.blkNe 31 11 (by decide) rfl rfl (by omega)); (· exact hH.blkNe 31 21 (by decide) rfl rfl (by omega)); (· exact hH.arFresh 3 31 (by decide) rfl rfl h)
          have hH := hH.drop 34
          rw [show ((p2 :: q :: S3).length : Int) + 1 = ((({ p2 with kids := mput p2.kids (gi rest 0) (b77 + 1) } : TRec) :: (⟨p2.path ++ q.lab.take (lcp rest q.lab).length, b77 + 1, b67, q.lab.take (lcp rest q.lab).length, none, [(gi q.lab ((lcp rest q.lab).length : Int), q.nb)]⟩ : TRec) :: ({ q with lab := q.lab.drop (lcp rest q.lab).length } : TRec) :: S3).length : Int) from by simp only [List.length_cons]; omega] at hH
          have hH := hH.arClose (r := ({ q with lab := q.lab.drop (lcp rest q.lab).length } : TRec)) 3 21 22 24 (by decide) hj29_1 rfl rfl rfl rfl
          have hH := hH.arClose (r := (⟨p2.path ++ q.lab.take (lcp rest q.lab).length, b77 + 1, b67, q.lab.take (lcp rest q.lab).length, none, [(gi q.lab ((lcp rest q.lab).length : Int), q.nb)]⟩ : TRec)) 3 31 32 34 (by decide) rfl rfl rfl rfl rfl
          have hH := hH.arClose (r := ({ p2 with kids := mput p2.kids (gi rest 0) (b77 + 1) } : TRec)) 3 11 12 14 (by decide) hj29_0 rfl rfl rfl rfl
          have hcut := hj29_2.cut (mb := b67) hkq hk0 hx hfr
          have hmc := min_cut (x := gi q.lab ((lcp rest q.lab).length : Int)) (nb := b77 + 1) (mb := b67) (k := (lcp rest q.lab).length) (c := (gi rest 0)) hmm.1
          have he2 := hj29_5.cut (m := mput p2.kids (gi rest 0) (b77 + 1)) (nb := b77 + 1) (mb := b67) (pa := p2.path ++ q.lab.take (lcp rest q.lab).length) (la := q.lab.take (lcp rest q.lab).length) (lb := q.lab.drop (lcp rest q.lab).length) (ks := [(gi q.lab ((lcp rest q.lab).length : Int), q.nb)])
          have hkey : key = (p2.path ++ q.lab.take (lcp rest q.lab).length) ++ rest.drop (lcp rest q.lab).length := by rw [hj29_7, hq0_4, List.append_assoc, lcp_cut]
          have hodd : (rest.drop (lcp rest q.lab).length).head? ≠ some (gi q.lab ((lcp rest q.lab).length : Int)) := lcp_odd hx
          have hv3 : ∀ r ∈ ({ p2 with kids := mput p2.kids (gi rest 0) (b77 + 1) } : TRec) :: (⟨p2.path ++ q.lab.take (lcp rest q.lab).length, b77 + 1, b67, q.lab.take (lcp rest q.lab).length, none, [(gi q.lab ((lcp rest q.lab).length : Int), q.nb)]⟩ : TRec) :: ({ q with lab := q.lab.drop (lcp rest q.lab).length } : TRec) :: S3, ∀ k v, r.val = some (k, v) → ∃ r0 ∈ S, r0.val = some (k, v) := by intro r hr k v hv; simp only [List.mem_cons] at hr; rcases hr with rfl | rfl | rfl | hr; exact hj29_8 p2 (by simp) k v hv; cases hv; exact hj29_8 q (by simp) k v hv; exact hj29_8 r (by simp [hr]) k v hv
          exact ⟨_, (by rw [List.length_drop]; omega), ⟨_, (⟨p2.path ++ q.lab.take (lcp rest q.lab).length, b77 + 1, b67, q.lab.take (lcp rest q.lab).length, none, [(gi q.lab ((lcp rest q.lab).length : Int), q.nb)]⟩ : TRec), rest.drop (lcp rest q.lab).length, rfl, hcut, hmc, he2, (by simp), hkey, (fun _ => .inr (.inr ⟨_, _, rfl, hodd⟩)), hv3, (by simp only [List.length_cons, List.length_drop] at *; omega), ((((hF.bare.add hF 8 rfl).add hF 5 rfl).add hF 1 rfl).add hF 0 rfl), hH.sub _ (sub_cons (sub_cons (sub_cons (sub_nil _) 5 rfl) 3 rfl) 1 rfl)⟩⟩
        · have hk60_3 := hc60; try simp only [Bool.or_eq_true, Bool.and_eq_true, Bool.or_eq_false_iff, Bool.and_eq_false_iff, Bool.not_eq_true', Bool.not_eq_false', decide_eq_true_eq, decide_eq_false_iff_not, Bool.not_true, Bool.not_false] at hc60
          have hke : (lcp rest q.lab).length = q.lab.length := by omega
          have hpre : q.lab <+: rest := (lcp_full (by omega)).2 (by omega)
          have hkey : key = q.path ++ rest.drop (lcp rest q.lab).length := by rw [hke]; exact kid_key hj29_2 (List.mem_cons_self ..) (by simp) hkq (by rw [hj29_7]; exact hq0_4) hpre
          have hexq : rest.drop (lcp rest q.lab).length ≠ [] → Ex q [] (rest.drop (lcp rest q.lab).length) := fun hne => (by rcases hj29_4 with h | h; (· exact (hne (by rw [hke, h, List.drop_length])).elim); (· exact .inr (.inl (h.1 q (by simp) (hj29_2.kid_ne (List.mem_cons_self ..) (by simp) hkq).2 (hj29_2.kid_ne (List.mem_cons_self ..) (by simp) hkq).2))))
          refine wp_skip ?_
          refine hK12 _ _ ?_
          refine r_start [(1, .blk tb (.cells #[ptrV p0.nb, .int .i64 (l.length : Int), .int .i64 ((p2 :: q :: S3).length : Int)] 58 (0, 0))), (5, .blk b5 (.cells #[.string (strOfNums v)] 9 (0, 0))), (11, .blk bp (.cells #[.string (strOfNums p2.lab), .pointer (valA p2.val), .map (some p2.mb)] 62 (0, 0))), (21, .blk bq (.cells #[.string (strOfNums q.lab), .pointer (valA q.val), .map (some q.mb)] 62 (0, 0)))] (by kernel_rfl) hH fun hH => ?_
          have hS : SL [(1, .blk tb (.cells #[ptrV p0.nb, .int .i64 (l.length : Int), .int .i64 ((p2 :: q :: S3).length : Int)] 58 (0, 0))), (5, .blk b5 (.cells #[.string (strOfNums v)] 9 (0, 0))), (11, .blk bp (.cells #[.string (strOfNums p2.lab), .pointer (valA p2.val), .map (some p2.mb)] 62 (0, 0))), (21, .blk bq (.cells #[.string (strOfNums q.lab), .pointer (valA q.val), .map (some q.mb)] 62 (0, 0)))] _ := SL.of hH (sub_cons (sub_cons (sub_cons (sub_cons (sub_nil _) 21 rfl) 11 rfl) 5 rfl) 1 rfl)
          refine r_take 0 hF rfl rfl rfl (by kernel_rfl) (by kernel_rfl) (by kernel_rfl) (fun _ _ _ h => h) rfl hS (fun w hS => x_move (hF.tmp 9 rfl)) rfl ?_; clear hF; intro a hF
          refine r_take 1 hF rfl rfl rfl (by kernel_rfl) (by kernel_rfl) (by kernel_rfl) (fun _ _ _ h => h) rfl hS (fun w hS => x_move (hF.tmp 1 rfl)) rfl ?_; clear hF; intro a hF
          refine r_take 2 hF rfl rfl rfl (by kernel_rfl) (by kernel_rfl) (by kernel_rfl) (fun _ _ _ h => h) rfl hS (fun w hS => x_move (hF.tmp 10 rfl)) rfl ?_; clear hF; intro a hF
          refine r_take 3 hF rfl rfl rfl (by kernel_rfl) (by kernel_rfl) (by kernel_rfl) (fun _ _ _ h => h) rfl hS (fun w hS => x_sliceSl (xs := rest) Try.underlying9 (hF.tmp 103 rfl) (hF.tmp 104 rfl) (by omega) (by omega)) rfl ?_; clear hF; intro a hF
          refine r_take 4 hF rfl rfl rfl (by kernel_rfl) (by kernel_rfl) (by kernel_rfl) (fun _ _ _ h => h) rfl hS (fun w hS => x_assign (hF.tmp 102 rfl)) rfl ?_; clear hF; intro a hF
          refine r_take 5 hF rfl rfl rfl (by kernel_rfl) (by kernel_rfl) (by kernel_rfl) (fun _ _ _ h => h) rfl hS (fun w hS => x_assign (hF.tmp 105 rfl)) rfl ?_; clear hF; intro a hF
          refine r_end (by kernel_rfl) ?_; clear hS
          have hH := hH.arClose (r := q) 3 21 22 24 (by decide) hj29_1 rfl rfl rfl rfl
          have hH := hH.arClose (r := p2) 3 11 12 14 (by decide) hj29_0 rfl rfl rfl rfl
          rw [← ptrV_of hj29_1] at hF
          exact ⟨_, (by rw [List.length_drop]; omega), ⟨_, q, rest.drop (lcp rest q.lab).length, rfl, hj29_2, hj29_3, hj29_5, (by simp), hkey, hexq, hj29_8, (by simp only [List.length_cons, List.length_drop] at *; omega), ((((hF.bare.add hF 8 rfl).add hF 5 rfl).add hF 1 rfl).add hF 0 rfl), hH.sub _ (sub_cons (sub_cons (sub_cons (sub_nil _) 5 rfl) 3 rfl) 1 rfl)⟩⟩
      refine wp_cond_split (hF.tmp 29 rfl) (fun hc29 => ?_) (fun hc29 => ?_)
      · have hk29_4 := hc29; try simp only [Bool.or_eq_true, Bool.and_eq_true, Bool.or_eq_false_iff, Bool.and_eq_false_iff, Bool.not_eq_true', Bool.not_eq_false', decide_eq_true_eq, decide_eq_false_iff_not, Bool.not_true, Bool.not_false] at hc29
        have hkn := hw1.kidNone (List.mem_cons_self ..) hpos1 hc29
        refine wp_seq_k fun khK18 hK18 => ?_
        refine wp_region_lit ?_
        refine l_at hF rfl rfl rfl (x_move (hF.tmp 1 rfl)) ?_; clear hF; intro a hF
        refine wpList_plain rfl fun K hK => ?_
        refine w_makeMap KB NV 22 hF hH rfl ?_
        clear hF hH; intro a w b31 hF hH
        refine hK _ _ ?_; clear hK K
        refine l_at hF rfl rfl rfl (x_buildS (cells := #[.string (strOfNums rest), .pointer none, .map (some b31)]) (places := #[(0, 1), (1, 1), (2, 1)]) Try.underlying62 ty62 (by kernel_rfl) (by simp only [List.map_toArray, List.map_cons, List.map_nil, hF.tmp 30 rfl, hF.tmp 31 rfl] <;> rfl) rfl) ?_; clear hF; intro a hF
        refine wpList_plain rfl fun K hK => ?_
        refine w_box 21 hF hH rfl (hF.tmp 32 rfl) ?_
        clear hF hH; intro a w b33 hF hH
        refine hK _ _ ?_; clear hK K
        refine l_at hF rfl rfl rfl (x_assign (hF.tmp 33 rfl)) ?_; clear hF; intro a hF
        refine wpList_nil ?_
        refine hK18 _ _ ?_
        refine wp_seq_k fun khK19 hK19 => ?_
        refine r_start [(11, .blk bp (.cells #[.string (strOfNums p.lab), .pointer (valA p.val), .map (some p.mb)] 62 (0, 0)))] (by kernel_rfl) hH fun hH => ?_
        have hS : SL [(11, .blk bp (.cells #[.string (strOfNums p.lab), .pointer (valA p.val), .map (some p.mb)] 62 (0, 0)))] _ := SL.of hH (sub_cons (sub_nil _) 11 rfl)
        refine r_take 0 hF rfl rfl rfl (by kernel_rfl) (by kernel_rfl) (by kernel_rfl) (fun _ _ _ h => h) rfl hS (fun w hS => x_move (hF.tmp 8 rfl)) rfl ?_; clear hF; intro a hF
        refine r_take 1 hF rfl rfl rfl (by kernel_rfl) (by kernel_rfl) (by kernel_rfl) (fun _ _ _ h => h) rfl hS (fun w hS => x_nil (hF.tmp 34 rfl)) rfl ?_; clear hF; intro a hF
        refine r_take 2 hF rfl rfl rfl (by kernel_rfl) (by kernel_rfl) (by kernel_rfl) (fun _ _ _ h => h) rfl hS (fun w hS => x_faddr Try.underlying62 rfl ty60 (by decide) (hF.tmp 35 rfl) rfl) rfl ?_; clear hF; intro a hF
        refine r_take 3 hF rfl rfl rfl (by kernel_rfl) (by kernel_rfl) (by kernel_rfl) (fun _ _ _ h => h) rfl hS (fun w hS => x_load1 ty60 (hF.tmp 36 rfl) (blk_cell (SL.at_ hS 11 rfl) 2 rfl)) rfl ?_; clear hF; intro a hF
        refine r_take 4 hF rfl rfl rfl (by kernel_rfl) (by kernel_rfl) (by kernel_rfl) (fun _ _ _ h => h) rfl hS (fun w hS => x_move (hF.tmp 1 rfl)) rfl ?_; clear hF; intro a hF
        refine r_take 5 hF rfl rfl rfl (by kernel_rfl) (by kernel_rfl) (by kernel_rfl) (fun _ _ _ h => h) rfl hS (fun w hS => x_idxS (xs := rest) Try.underlying9 (hF.tmp 38 rfl) rfl (by assumption) (by omega) (by omega)) rfl ?_; clear hF; intro a hF
        refine r_take 6 hF rfl rfl rfl (by kernel_rfl) (by kernel_rfl) (by kernel_rfl) (fun _ _ _ h => h) rfl hS (fun w hS => x_move (hF.tmp 9 rfl)) rfl ?_; clear hF; intro a hF
        refine r_do 7 rfl (by kernel_rfl) rfl rfl ?_
        refine w_mapSet 12 (k := (gi rest 0)) (yv := (b33 + 1)) noB hH rfl Try.underlying60 Try.underlying5 (hF.tmp 37 rfl) (hF.tmp 39 rfl) (hF.tmp 40 rfl) rfl (fun k hk => hk) (fun k hk => .inl hk) ?_
        clear hH; intro w hH
        clear hS; have hS : SL _ _ := SL.of hH (sub_cons (sub_nil _) 11 rfl); refine ⟨hS, ?_⟩
        refine r_end (by kernel_rfl) ?_; clear hS
        refine hK19 _ _ ?_
        refine wp_region_lit ?_
        refine l_at hF rfl rfl rfl (x_move (hF.tmp 0 rfl)) ?_; clear hF; intro a hF
        refine l_at hF rfl rfl rfl (x_nil (hF.tmp 41 rfl)) ?_; clear hF; intro a hF
        refine l_at hF rfl rfl rfl (x_faddr Try.underlying58 rfl ty3 (by decide) (hF.tmp 42 rfl) rfl) ?_; clear hF; intro a hF
        refine l_at hF rfl rfl rfl (x_load1 ty3 (hF.tmp 43 rfl) (blk_cell (hH.at 1 rfl) 2 rfl)) ?_; clear hF; intro a hF
        refine l_at hF rfl rfl rfl (x_add (hF.tmp 44 rfl) rfl (w64 (by omega) (by omega))) ?_; clear hF; intro a hF
        refine l_at hF rfl rfl rfl (x_nil (hF.tmp 41 rfl)) ?_; clear hF; intro a hF
        refine l_at hF rfl rfl rfl (x_faddr Try.underlying58 rfl ty3 (by decide) (hF.tmp 46 rfl) rfl) ?_; clear hF; intro a hF
        refine wpList_plain rfl fun K hK => ?_
        refine w_store 1 hH ty3 rfl (hF.tmp 47 rfl) (hF.tmp 45 rfl) rfl (one1 rfl rfl) (by first | decide | exact Nat.le_of_ble_eq_true rfl) ?_
        clear hH; intro w hH
        refine hK _ _ ?_; clear hK K
        refine wpList_nil ?_
        have hfr : b33 + 1 ∉ (p :: S2).map (·.nb) := by rw [List.map_cons, List.mem_cons, hbp]; rintro (h | h); (· exact hH.blkNe 21 11 (by decide) rfl rfl (by omega)); (· exact hH.arFresh 3 21 (by decide) rfl rfl h)
        have hH := hH.drop 24
        rw [show (S1.length : Int) + 1 = ((p :: (⟨p.path ++ rest, b33 + 1, b31, rest, none, []⟩ : TRec) :: S2).length : Int) from by have := hS2.length_eq; simp only [List.length_cons] at this ⊢; omega] at hH
        exact hJ29 _ _ ({ p with kids := mput p.kids (gi rest 0) (b33 + 1) } : TRec) (⟨p.path ++ rest, b33 + 1, b31, rest, none, []⟩ : TRec) S2 b33 hbp rfl (hw1.newKid hkn (head_gi (by omega)) hfr (by rw [← hq0_4]; exact hkb) (by rw [← hq0_4]; exact hkl)) (WF.minNew hm1 (hq0_5 (by intro e; subst e; simp at hc20)) hkn (fun r hr e => by have h9 := hw1.paths; rw [List.map_cons, List.nodup_cons] at h9; exact h9.1 (List.mem_map.2 ⟨r, hr, e⟩))) (.inl rfl) he1.new (by dsimp only; rw [al_put, if_pos rfl]) rfl (by intro r hr k v hv; simp only [List.mem_cons] at hr; rcases hr with rfl | rfl | hr; exact hv1 p (by simp) k v hv; cases hv; exact hv1 r (by simp [hr]) k v hv) (by have := hS2.length_eq; simp only [List.length_cons] at this; omega) (((((hF.bare.add hF 9 rfl).add hF 8 rfl).add hF 5 rfl).add hF 1 rfl).add hF 0 rfl) (hH.sub _ (sub_cons (sub_cons (sub_cons (sub_cons (sub_cons (sub_cons (sub_cons (sub_cons (sub_cons (sub_nil _) 24 rfl) 22 rfl) 21 rfl) 14 rfl) 12 rfl) 11 rfl) 5 rfl) 3 rfl) 1 rfl))
      · have hk29_5 := hc29; try simp only [Bool.or_eq_true, Bool.and_eq_true, Bool.or_eq_false_iff, Bool.and_eq_false_iff, Bool.not_eq_true', Bool.not_eq_false', decide_eq_true_eq, decide_eq_false_iff_not, Bool.not_true, Bool.not_false] at hc29
        refine wp_skip ?_
        obtain ⟨q, hq, hkq⟩ := hw1.kidSome (List.mem_cons_self ..) hc29
        have hne := hw1.kid_ne (List.mem_cons_self ..) hq hkq
        obtain ⟨S3, hS3⟩ := perm_of ((List.mem_cons.1 hq).resolve_left (fun e => hne.1 e.symm))
        have hH := hH.arPerm 3 rfl hS3
        have hS4 : (p :: S2).Perm (p :: q :: S3) := hS3.cons p
        obtain ⟨bq, hbq, hH⟩ := hH.arOpen 3 21 22 24 (by decide) rfl
        rw [kidV hkq hbq] at hF
        rw [show (S1.length : Int) = ((p :: q :: S3).length : Int) from by rw [hS2.length_eq, hS4.length_eq]] at hH
        exact hJ29 _ _ p q S3 bq hbp hbq (hw1.perm hS4) (WF.minDown (hm1.perm hS4) (hq0_5 (by intro e; subst e; simp at hc20)) hkq (head_gi (by omega)) (hw1.perm hS4) (by simp) _) (.inr ⟨WF.minDown (hm1.perm hS4) (hq0_5 (by intro e; subst e; simp at hc20)) hkq (head_gi (by omega)) (hw1.perm hS4) (by simp) _, by have h1 := hS2.length_eq; have h2 := hS4.length_eq; simp only [List.length_cons] at h1 h2; omega⟩) (he1.perm hS4) hkq rfl (fun r hr => hv1 r (hS4.mem_iff.2 hr)) (by have h1 := hS2.length_eq; have h2 := hS4.length_eq; simp only [List.length_cons] at h1 h2; omega) (((((hF.bare.add hF 9 rfl).add hF 8 rfl).add hF 5 rfl).add hF 1 rfl).add hF 0 rfl) (hH.sub _ (sub_cons (sub_cons (sub_cons (sub_cons (sub_cons (sub_cons (sub_cons (sub_cons (sub_cons (sub_nil _) 24 rfl) 22 rfl) 21 rfl) 14 rfl) 12 rfl) 11 rfl) 5 rfl) 3 rfl) 1 rfl))
    · have hk20_6 := hc20; try simp only [Bool.or_eq_true, Bool.and_eq_true, Bool.or_eq_false_iff, Bool.and_eq_false_iff, Bool.not_eq_true', Bool.not_eq_false', decide_eq_true_eq, decide_eq_false_iff_not, Bool.not_true, Bool.not_false] at hc20
      obtain rfl := List.length_eq_zero_iff.1 hc20
      rw [List.append_nil] at hq0_4
      refine wp_exit ?_
      refine hK5 _ _ ?_
      refine wp_seq_k fun khK20 hK20 => ?_
      refine wp_region_lit ?_
      refine l_at hF rfl rfl rfl (x_move (hF.tmp 8 rfl)) ?_; clear hF; intro a hF
      refine l_at hF rfl rfl rfl (x_nil (hF.tmp 106 rfl)) ?_; clear hF; intro a hF
      refine l_at hF rfl rfl rfl (x_faddr Try.underlying62 rfl ty59 (by decide) (hF.tmp 107 rfl) rfl) ?_; clear hF; intro a hF
      refine l_at hF rfl rfl rfl (x_load1 ty59 (hF.tmp 108 rfl) (blk_cell (hH.at 11 rfl) 1 rfl)) ?_; clear hF; intro a hF
      refine l_at hF rfl rfl rfl (x_assign (hF.tmp 109 rfl)) ?_; clear hF; intro a hF
      refine wpList_nil ?_
      refine hK20 _ _ ?_
      refine wp_seq_k fun khK21 hK21 => ?_
      refine wp_region_lit ?_
      refine l_at hF rfl rfl rfl (x_move (hF.tmp 8 rfl)) ?_; clear hF; intro a hF
      refine l_at hF rfl rfl rfl (x_nil (hF.tmp 110 rfl)) ?_; clear hF; intro a hF
      refine l_at hF rfl rfl rfl (x_faddr Try.underlying62 rfl ty59 (by decide) (hF.tmp 111 rfl) rfl) ?_; clear hF; intro a hF
      refine wpList_plain rfl fun K hK => ?_
      refine w_store 11 hH ty59 rfl (hF.tmp 112 rfl) (hF.tmp 5 rfl) rfl (one1 rfl rfl) (by first | decide | exact Nat.le_of_ble_eq_true rfl) ?_
      clear hH; intro w hH
      refine hK _ _ ?_; clear hK K
      have hb5 : OwnL [(1, .blk tb (.cells #[ptrV p0.nb, .int .i64 (l.length : Int), .int .i64 (S.length : Int)] 58 (0, 0))), (3, .arena 62 9 S)] b5 ∨ RdL [(1, .blk tb (.cells #[ptrV p0.nb, .int .i64 (l.length : Int), .int .i64 (S.length : Int)] 58 (0, 0))), (3, .arena 62 9 S)] b5 ∨ (fun _ => False : Nat → Prop) b5 ∨ w0.heap.size ≤ b5 := (hH.mine 5 _ rfl b5 rfl).imp id (fun h => .inr (.inr h))
      have hH := hH.roAny 5 rfl
      have hH := hH.arClose (r := ({ p with val := some (b5, v) } : TRec)) 3 11 12 5 (by decide) hbp rfl rfl rfl rfl
      have hw5 := hw1.setVal (some (b5, v)) (by intro b s e; cases e; exact ⟨hvb, hvl⟩)
      have hm5 : MinBut (({ p with val := some (b5, v) } : TRec) :: S2) [] [] := by intro r hr h1 _; rcases List.mem_cons.1 hr with rfl | hr; exact .inl rfl; exact hm1 r (by simp [hr]) h1 (fun e => by have h9 := hw1.paths; rw [List.map_cons, List.nodup_cons] at h9; exact h9.1 (List.mem_map.2 ⟨r, hr, e⟩))
      have he5 : EntOf (({ p with val := some (b5, v) } : TRec) :: S2) (putL l key v) := by rw [hq0_4]; exact he1.set hw1 b5 v
      have hrd : ∀ k, ∀ r ∈ ({ p with val := some (b5, v) } : TRec) :: S2, ∀ u, r.val = some (k, u) → OwnL [(1, .blk tb (.cells #[ptrV p0.nb, .int .i64 (l.length : Int), .int .i64 (S.length : Int)] 58 (0, 0))), (3, .arena 62 9 S)] k ∨ RdL [(1, .blk tb (.cells #[ptrV p0.nb, .int .i64 (l.length : Int), .int .i64 (S.length : Int)] 58 (0, 0))), (3, .arena 62 9 S)] k ∨ (fun _ => False : Nat → Prop) k ∨ w0.heap.size ≤ k := by intro k r hr u hu; rcases List.mem_cons.1 hr with rfl | hr; (· cases hu; exact hb5); (· obtain ⟨r0, h1, h2⟩ := hv1 r (by simp [hr]) k u hu; exact .inr (.inl ⟨3, _, rfl, r0, h1, u, h2⟩))
      refine wpList_nil ?_
      refine hK21 _ _ ?_
      refine wp_seq_k fun khK22 hK22 => ?_
      refine wp_seq_k fun khK23 hK23 => ?_
      refine wp_region_lit ?_
      refine l_at hF rfl rfl rfl (x_move (hF.tmp 12 rfl)) ?_; clear hF; intro a hF
      refine l_at hF rfl rfl rfl (x_ptrnil (pa := (valA p.val)) Try.underlying59 (hF.tmp 113 rfl) rfl) ?_; clear hF; intro a hF
      refine wpList_nil ?_
      refine hK23 _ _ ?_
      refine wp_cond_split (hF.tmp 114 rfl) (fun hc114 => ?_) (fun hc114 => ?_)
      · have hk114_7 := hc114; try simp only [Bool.or_eq_true, Bool.and_eq_true, Bool.or_eq_false_iff, Bool.and_eq_false_iff, Bool.not_eq_true', Bool.not_eq_false', decide_eq_true_eq, decide_eq_false_iff_not, Bool.not_true, Bool.not_false] at hc114
        have hv := valA_none hc114
        refine wp_seq_k fun khK24 hK24 => ?_
        refine wp_region_lit ?_
        refine l_at hF rfl rfl rfl (x_move (hF.tmp 0 rfl)) ?_; clear hF; intro a hF
        refine l_at hF rfl rfl rfl (x_nil (hF.tmp 115 rfl)) ?_; clear hF; intro a hF
        refine l_at hF rfl rfl rfl (x_faddr Try.underlying58 rfl ty3 (by decide) (hF.tmp 116 rfl) rfl) ?_; clear hF; intro a hF
        refine l_at hF rfl rfl rfl (x_load1 ty3 (hF.tmp 117 rfl) (blk_cell (hH.at 1 rfl) 1 rfl)) ?_; clear hF; intro a hF
        refine l_at hF rfl rfl rfl (x_add (hF.tmp 118 rfl) rfl (w64 (by omega) (by omega))) ?_; clear hF; intro a hF
        refine l_at hF rfl rfl rfl (x_nil (hF.tmp 115 rfl)) ?_; clear hF; intro a hF
        refine l_at hF rfl rfl rfl (x_faddr Try.underlying58 rfl ty3 (by decide) (hF.tmp 120 rfl) rfl) ?_; clear hF; intro a hF
        refine wpList_plain rfl fun K hK => ?_
        refine w_store 1 hH ty3 rfl (hF.tmp 121 rfl) (hF.tmp 119 rfl) rfl (one1 rfl rfl) (by first | decide | exact Nat.le_of_ble_eq_true rfl) ?_
        clear hH; intro w hH
        refine hK _ _ ?_; clear hK K
        refine wpList_nil ?_
        refine hK24 _ _ ?_
        refine wp_seq_k fun khK25 hK25 => ?_
        refine wp_region_lit ?_
        refine l_at hF rfl rfl rfl (x_assign (show _ = Value.string (strOfNums ([] : List Int)) by kernel_rfl)) ?_; clear hF; intro a hF
        refine l_at hF rfl rfl rfl (x_assign rfl) ?_; clear hF; intro a hF
        refine wpList_nil ?_
        refine hK25 _ _ ?_
        refine wp_ret ?_
        try simp only [Exit.then, Exit.inBlock]
        have hg : al l key = none := by rw [hq0_4, he1.get hw1 (List.mem_cons_self ..), hv]; rfl
        have hl2 : (putL l key v).length = l.length + 1 := by have h1 := putL_len he.1 key v; rw [hg] at h1; simpa using h1
        have hH := hH.relab 1 (Y := .blk tb (.cells #[ptrV p0.nb, .int .i64 ((putL l key v).length : Int), .int .i64 ((({ p with val := some (b5, v) } : TRec) :: S2).length : Int)] 58 (0, 0))) rfl (by have e9 : ((putL l key v).length : Int) = (l.length : Int) + 1 := (by rw [hl2]; omega); rw [e9, show (S1.length : Int) = ((({ p with val := some (b5, v) } : TRec) :: S2).length : Int) from by rw [hS2.length_eq]; rfl] <;> rfl)
        have hh : Hp _ w0 w [(1, .blk tb (.cells #[ptrV p0.nb, .int .i64 ((putL l key v).length : Int), .int .i64 ((({ p with val := some (b5, v) } : TRec) :: S2).length : Int)] 58 (0, 0))), (3, .arena 62 9 (({ p with val := some (b5, v) } : TRec) :: S2))] := hH.sub _ (sub_cons (sub_cons (sub_nil _) 3 rfl) 1 rfl)
        exact fin_ret hF (res2 hF rfl rfl rfl) ⟨_, by rw [hg]; rfl, ⟨_, _, rfl, hw5, hm5, he5⟩, (grew_sub hh (fun _ _ h => h) (rdin_cons (fun k h => h.elim) (rdin_cons (fun k ⟨r, hr, u, hu⟩ => hrd k r hr u hu) rdin_nil)))⟩
      · have hk114_8 := hc114; try simp only [Bool.or_eq_true, Bool.and_eq_true, Bool.or_eq_false_iff, Bool.and_eq_false_iff, Bool.not_eq_true', Bool.not_eq_false', decide_eq_true_eq, decide_eq_false_iff_not, Bool.not_true, Bool.not_false] at hc114
        obtain ⟨bv, u, hv⟩ := valA_some hc114
        have hH := hH.vroAt 14 rfl hv
        rw [valA_of hv] at hF
        refine wp_skip ?_
        refine hK22 _ _ ?_
        refine wp_seq_k fun khK26 hK26 => ?_
        refine wp_region_lit ?_
        refine l_at hF rfl rfl rfl (x_move (hF.tmp 12 rfl)) ?_; clear hF; intro a hF
        refine l_at hF rfl rfl rfl (x_nil (hF.tmp 122 rfl)) ?_; clear hF; intro a hF
        refine l_at hF rfl rfl rfl (x_load1 ty9 (hF.tmp 123 rfl) (blk_cell (hH.atro 14 rfl) 0 rfl)) ?_; clear hF; intro a hF
        refine l_at hF rfl rfl rfl (x_assign (hF.tmp 124 rfl)) ?_; clear hF; intro a hF
        refine l_at hF rfl rfl rfl (x_assign rfl) ?_; clear hF; intro a hF
        refine wpList_nil ?_
        refine hK26 _ _ ?_
        refine wp_ret ?_
        try simp only [Exit.then, Exit.inBlock]
        have hg : al l key = some u := by rw [hq0_4, he1.get hw1 (List.mem_cons_self ..), hv]; rfl
        have hl2 : (putL l key v).length = l.length := by have h1 := putL_len he.1 key v; rw [hg] at h1; simpa using h1
        have hH := hH.relab 1 (Y := .blk tb (.cells #[ptrV p0.nb, .int .i64 ((putL l key v).length : Int), .int .i64 ((({ p with val := some (b5, v) } : TRec) :: S2).length : Int)] 58 (0, 0))) rfl (by have e9 : ((putL l key v).length : Int) = (l.length : Int) := (by rw [hl2]); rw [e9, show (S1.length : Int) = ((({ p with val := some (b5, v) } : TRec) :: S2).length : Int) from by rw [hS2.length_eq]; rfl] <;> rfl)
        have hh : Hp _ w0 w [(1, .blk tb (.cells #[ptrV p0.nb, .int .i64 ((putL l key v).length : Int), .int .i64 ((({ p with val := some (b5, v) } : TRec) :: S2).length : Int)] 58 (0, 0))), (3, .arena 62 9 (({ p with val := some (b5, v) } : TRec) :: S2))] := hH.sub _ (sub_cons (sub_cons (sub_nil _) 3 rfl) 1 rfl)
        exact fin_ret hF (res2 hF rfl rfl rfl) ⟨_, by rw [hg]; rfl, ⟨_, _, rfl, hw5, hm5, he5⟩, (grew_sub hh (fun _ _ h => h) (rdin_cons (fun k h => h.elim) (rdin_cons (fun k ⟨r, hr, u, hu⟩ => hrd k r hr u hu) rdin_nil)))⟩

set_option maxRecDepth 100000 in
set_option maxHeartbeats 1000000 in
theorem put_nil (w0 : World) (key v : List Int) : Calls Try.prog 15 #[.pointer none, .string (strOfNums key), .string (strOfNums v)] w0 fun e w' => e = .returned (.tuple #[.string (strOfNums []), .bool false]) ∧ Mods (fun _ => False) w0 w' := by
  refine calls_of_wp Try.func15 rfl ?_
  have hF := Fr.enter #[.pointer none, .string (strOfNums key), .string (strOfNums v)] 125 (slotsOf [.pointer none, .string (strOfNums key), .string (strOfNums v)] 0) (Nat.le_of_ble_eq_true rfl) (fun i v h => by have h2 := (get_slotsOf _ 0 i v h).2; simpa only [List.getElem?_toArray, Nat.sub_zero] using h2)
  have hH := Hp.nil (fun _ => False) w0
  rw [Try.ntmps15]
  revert hF; generalize (⟨(#[.pointer none, .string (strOfNums key), .string (strOfNums v)] : Array Value) ++ Array.replicate (125 - (#[.pointer none, .string (strOfNums key), .string (strOfNums v)] : Array Value).size) undef, []⟩ : Act) = a; intro hF
  refine wp_seq_k fun khK1 hK1 => ?_
  refine wp_region_lit ?_
  refine wpList_plain rfl fun K hK => ?_
  refine w_box 5 hF hH rfl (hF.tmp 2 rfl) ?_
  clear hF hH; intro a w b5 hF hH
  refine hK _ _ ?_; clear hK K
  refine l_at hF rfl rfl rfl (x_assign (show _ = Value.string (strOfNums ([] : List Int)) by kernel_rfl)) ?_; clear hF; intro a hF
  refine l_at hF rfl rfl rfl (x_assign rfl) ?_; clear hF; intro a hF
  refine wpList_nil ?_
  refine hK1 _ _ ?_
  refine wp_seq_k fun khK2 hK2 => ?_
  refine wp_seq_k fun khK3 hK3 => ?_
  refine wp_region_lit ?_
  refine l_at hF rfl rfl rfl (x_move (hF.tmp 0 rfl)) ?_; clear hF; intro a hF
  refine l_at hF rfl rfl rfl (x_ptrnil Try.underlying23 (hF.tmp 13 rfl) rfl) ?_; clear hF; intro a hF
  refine wpList_nil ?_
  refine hK3 _ _ ?_
  refine wp_cond_true (hF.tmp 14 rfl) ?_
  refine wp_seq_k fun khK4 hK4 => ?_
  refine wp_region_lit ?_
  refine l_at hF rfl rfl rfl (x_assign (show _ = Value.string (strOfNums ([] : List Int)) by kernel_rfl)) ?_; clear hF; intro a hF
  refine l_at hF rfl rfl rfl (x_assign rfl) ?_; clear hF; intro a hF
  refine wpList_nil ?_
  refine hK4 _ _ ?_
  refine wp_ret ?_
  try simp only [Exit.then, Exit.inBlock]
  exact fin_ret hF (res2 hF rfl rfl rfl) ⟨rfl, hH.mods⟩

end Go.Proofs.Ytlcnoibjhmflnaa.Act
