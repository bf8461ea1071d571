/- The walks of action, second part. -/
import Derived.Test.YtlcnoibjhmflnaaDoorActA
import Derived.Test.YtlcnoibjhmflnaaDoorActT
import Derived.Test.YtlcnoibjhmflnaaDoorMap
import Derived.Test.YtlcnoibjhmflnaaDoorSeq
set_option linter.unusedVariables false
set_option linter.unusedSimpArgs false
namespace Go.Proofs.YtlcnoibjhmflnaaDoor.Act
open Go.RowKit Go.Proofs.YtlcnoibjhmflnaaDoor.Sx Go.Proofs.YtlcnoibjhmflnaaDoor.Cod Go.Proofs.YtlcnoibjhmflnaaDoor.Num
set_option maxRecDepth 100000 in
set_option maxHeartbeats 1000000 in
theorem few_calls (w0 : World) {ok : Nat → Prop} {A : Option Addr} {xs : List StepD} {c : Nat} (hr : Rd StE w0 ok A xs c) : Calls Tryd.prog 12 #[.slice A xs.length c] w0 fun e w' => e = .returned (.bool (fewS xs)) ∧ Mods (fun _ => False) w0 w' := by
  refine calls_of_wp Tryd.func12 rfl ?_
  have hF := Fr.enter #[.slice A xs.length c] 30 (slotsOf [.slice A xs.length c] 0) (Nat.le_of_ble_eq_true rfl) (fun i v h => by have h2 := (get_slotsOf _ 0 i v h).2; simpa only [List.getElem?_toArray, Nat.sub_zero] using h2)
  have hH := Hp.nil (fun _ => False) w0
  rw [Tryd.ntmps12]
  revert hF; generalize (⟨(#[.slice A xs.length c] : Array Value) ++ Array.replicate (30 - (#[.slice A xs.length c] : Array Value).size) undef, []⟩ : Act) = a; intro hF
  have hH := hH.arg 901 hr.all (fun _ h => ⟨h, fun h => h⟩)
  have hle901 := hr.le; unfold maxLen at hle901
  refine wp_seq_k fun khK1 hK1 => ?_
  refine wp_region_lit ?_
  refine l_at hF rfl rfl rfl (x_assign rfl) ?_; clear hF; intro a hF
  refine wpList_nil ?_
  refine hK1 _ _ ?_
  refine wp_seq_k fun khK2 hK2 => ?_
  refine wp_seq_k fun khK3 hK3 => ?_
  refine wp_region_lit ?_
  refine l_at hF rfl rfl rfl (x_assign rfl) ?_; clear hF; intro a hF
  refine wpList_nil ?_
  refine hK3 _ _ ?_
  refine wp_block ?_
  refine wp_loop_ghost (fun n_ a w => ∃ k : Nat, n_ = xs.length - k ∧ (k ≤ xs.length) ∧ (shortS (xs.take k) = true) ∧ (k ≤ 40) ∧ Fr 30 a [(0, .slice A xs.length c), (3, .int .i64 (k : Int))] ∧ Hp (fun _ => False) w0 w [(901, .rd_ StE A xs c (fun k => k < w0.heap.size))]) (xs.length) ?_ ?_
  · exact ⟨0, rfl, by omega, rfl, by omega, ((hF.bare.add hF 3 rfl).add hF 0 rfl), hH.sub _ (sub_cons (sub_nil _) 901 rfl)⟩
  · rintro _ a w ⟨k, rfl, hq0_0, hq0_1, hq0_2, hF, hH⟩
    refine wp_seq_k fun khK4 hK4 => ?_
    refine wp_seq_k fun khK5 hK5 => ?_
    refine wp_region_lit ?_
    refine l_at hF rfl rfl rfl (x_move (hF.tmp 3 rfl)) ?_; clear hF; intro a hF
    refine l_at hF rfl rfl rfl (x_move (hF.tmp 0 rfl)) ?_; clear hF; intro a hF
    refine l_at hF rfl rfl rfl (x_len_slice Tryd.underlying28 (hF.tmp 5 rfl)) ?_; clear hF; intro a hF
    refine l_at hF rfl rfl rfl (x_lss (hF.tmp 4 rfl) (hF.tmp 6 rfl)) ?_; clear hF; intro a hF
    refine wpList_nil ?_
    refine hK5 _ _ ?_
    refine wp_cond_split (hF.tmp 7 rfl) (fun hc7 => ?_) (fun hc7 => ?_)
    · have hk7_1 := hc7; try simp only [Bool.or_eq_true, Bool.and_eq_true, Bool.or_eq_false_iff, Bool.and_eq_false_iff, Bool.not_eq_true', Bool.not_eq_false', decide_eq_true_eq, decide_eq_false_iff_not, Bool.not_true, Bool.not_false] at hc7
      refine wp_skip ?_
      refine hK4 _ _ ?_
      refine wp_seq_k fun khK6 hK6 => ?_
      refine wp_block ?_
      refine wp_seq_k fun khK7 hK7 => ?_
      refine wp_region_lit ?_
      refine l_at hF rfl rfl rfl (x_move (hF.tmp 3 rfl)) ?_; clear hF; intro a hF
      refine l_at hF rfl rfl rfl (x_eql (hF.tmp 10 rfl) rfl) ?_; clear hF; intro a hF
      refine l_at hF rfl rfl rfl (x_move (hF.tmp 11 rfl)) ?_; clear hF; intro a hF
      refine split_bool hF 12 rfl (fun hb12 => ?_) (fun hb12 => ?_)
      · have hc12 := hb12; try simp only [Bool.or_eq_true, Bool.and_eq_true, Bool.or_eq_false_iff, Bool.and_eq_false_iff, Bool.not_eq_true', Bool.not_eq_false', decide_eq_true_eq, decide_eq_false_iff_not, Bool.not_true, Bool.not_false] at hc12
        have hz := fewS_many (by omega) hc12
        refine l_offg hF ((wanted_of hF rfl rfl rfl rfl).trans (by rw [hb12]; rfl)) rfl rfl ?_; clear hF; intro a hF
        refine l_offg hF ((wanted_of hF rfl rfl rfl rfl).trans (by rw [hb12]; rfl)) rfl rfl ?_; clear hF; intro a hF
        refine l_offg hF ((wanted_of hF rfl rfl rfl rfl).trans (by rw [hb12]; rfl)) rfl rfl ?_; clear hF; intro a hF
        refine l_offg hF ((wanted_of hF rfl rfl rfl rfl).trans (by rw [hb12]; rfl)) rfl rfl ?_; clear hF; intro a hF
        refine l_offg hF ((wanted_of hF rfl rfl rfl rfl).trans (by rw [hb12]; rfl)) rfl rfl ?_; clear hF; intro a hF
        refine l_offg hF ((wanted_of hF rfl rfl rfl rfl).trans (by rw [hb12]; rfl)) rfl rfl ?_; clear hF; intro a hF
        refine l_offg hF ((wanted_of hF rfl rfl rfl rfl).trans (by rw [hb12]; rfl)) rfl rfl ?_; clear hF; intro a hF
        refine l_at hF rfl rfl rfl (x_pickT (hF.tmp 12 rfl) hb12 rfl) ?_; clear hF; intro a hF
        refine l_at hF rfl rfl rfl (x_move (hF.tmp 20 rfl)) ?_; clear hF; intro a hF
        refine l_offg hF ((wanted_of hF rfl rfl rfl rfl).trans rfl) rfl rfl ?_; clear hF; intro a hF
        refine l_offg hF ((wanted_of hF rfl rfl rfl rfl).trans rfl) rfl rfl ?_; clear hF; intro a hF
        refine l_offg hF ((wanted_of hF rfl rfl rfl rfl).trans rfl) rfl rfl ?_; clear hF; intro a hF
        refine l_offg hF ((wanted_of hF rfl rfl rfl rfl).trans rfl) rfl rfl ?_; clear hF; intro a hF
        refine l_offg hF ((wanted_of hF rfl rfl rfl rfl).trans rfl) rfl rfl ?_; clear hF; intro a hF
        refine l_offg hF ((wanted_of hF rfl rfl rfl rfl).trans rfl) rfl rfl ?_; clear hF; intro a hF
        refine l_offg hF ((wanted_of hF rfl rfl rfl rfl).trans rfl) rfl rfl ?_; clear hF; intro a hF
        refine l_at hF rfl rfl rfl (x_pickT (hF.tmp 21 rfl) rfl rfl) ?_; clear hF; intro a hF
        refine wpList_nil ?_
        refine hK7 _ _ ?_
        refine wp_cond_true (hF.tmp 29 rfl) ?_
        refine wp_seq_k fun khK8 hK8 => ?_
        refine wp_region_lit ?_
        refine l_at hF rfl rfl rfl (x_assign rfl) ?_; clear hF; intro a hF
        refine wpList_nil ?_
        refine hK8 _ _ ?_
        refine wp_ret ?_
        try simp only [Exit.then, Exit.inBlock]
        exact fin_ret hF (res1 hF rfl rfl) ⟨by rw [hz] <;> rfl, hH.mods⟩
      · have hc12 := hb12; try simp only [Bool.or_eq_true, Bool.and_eq_true, Bool.or_eq_false_iff, Bool.and_eq_false_iff, Bool.not_eq_true', Bool.not_eq_false', decide_eq_true_eq, decide_eq_false_iff_not, Bool.not_true, Bool.not_false] at hc12
        obtain ⟨hf1_0, hf1_1, hf1_2, hf1_3, hfw1⟩ := rd_st ((hH.rd 901 rfl)) (gst_some (xs := xs) (i := (k : Int)) (by omega) (by omega))
        have hH := hH.subcels 901 rfl 1499 hfw1 (Rd.inok ((hH.rd 901 rfl)) (by omega) _)
        have hH := hH.subcel 901 rfl 1500 hf1_0 (Rd.inok ((hH.rd 901 rfl)) (by omega) _)
        have hH := hH.subcel 901 rfl 1501 hf1_1 (Rd.inok ((hH.rd 901 rfl)) (by omega) _)
        have hH := hH.subcel 901 rfl 1502 hf1_2 (Rd.inok ((hH.rd 901 rfl)) (by omega) _)
        have hH := hH.subcel 901 rfl 1503 hf1_3 (Rd.inok ((hH.rd 901 rfl)) (by omega) _)
        refine l_atg hF ((wanted_of hF rfl rfl rfl rfl).trans (by rw [hb12]; rfl)) rfl rfl (x_move (hF.tmp 0 rfl)) ?_; clear hF; intro a hF
        refine l_atg hF ((wanted_of hF rfl rfl rfl rfl).trans (by rw [hb12]; rfl)) rfl rfl (x_move (hF.tmp 3 rfl)) ?_; clear hF; intro a hF
        refine l_atg hF ((wanted_of hF rfl rfl rfl rfl).trans (by rw [hb12]; rfl)) rfl rfl (x_iaddr_A Tryd.underlying28 ty38 ((hH.rd 901 rfl)) (hF.tmp 13 rfl) (hF.tmp 14 rfl) (by omega) (by omega) _) ?_; clear hF; intro a hF
        refine l_atg hF ((wanted_of hF rfl rfl rfl rfl).trans (by rw [hb12]; rfl)) rfl rfl (x_faddrA ((hH.rd 901 rfl)) (by omega) _ Tryd.underlying38 rfl ty9 (by decide) (hF.tmp 15 rfl) rfl) ?_; clear hF; intro a hF
        refine l_atg hF ((wanted_of hF rfl rfl rfl rfl).trans (by rw [hb12]; rfl)) rfl rfl (x_load1 ty9 (hF.tmp 16 rfl) (hH.holds 1501 _ rfl)) ?_; clear hF; intro a hF
        refine l_atg hF ((wanted_of hF rfl rfl rfl rfl).trans (by rw [hb12]; rfl)) rfl rfl (x_len_sn (xs := ((gst xs (k : Int)).2.1)) Tryd.underlying9 (hF.tmp 17 rfl)) ?_; clear hF; intro a hF
        refine l_atg hF ((wanted_of hF rfl rfl rfl rfl).trans (by rw [hb12]; rfl)) rfl rfl (x_gtr (hF.tmp 18 rfl) rfl) ?_; clear hF; intro a hF
        refine l_at hF rfl rfl rfl (x_pickF (hF.tmp 12 rfl) hb12 (hF.tmp 19 rfl)) ?_; clear hF; intro a hF
        refine l_at hF rfl rfl rfl (x_move (hF.tmp 20 rfl)) ?_; clear hF; intro a hF
        refine split_bool hF 21 rfl (fun hb21 => ?_) (fun hb21 => ?_)
        · have hc21 := hb21; try simp only [Bool.or_eq_true, Bool.and_eq_true, Bool.or_eq_false_iff, Bool.and_eq_false_iff, Bool.not_eq_true', Bool.not_eq_false', decide_eq_true_eq, decide_eq_false_iff_not, Bool.not_true, Bool.not_false] at hc21
          have hz := fewS_long (by omega) (.inl hc21)
          refine l_offg hF ((wanted_of hF rfl rfl rfl rfl).trans (by rw [hb21]; rfl)) rfl rfl ?_; clear hF; intro a hF
          refine l_offg hF ((wanted_of hF rfl rfl rfl rfl).trans (by rw [hb21]; rfl)) rfl rfl ?_; clear hF; intro a hF
          refine l_offg hF ((wanted_of hF rfl rfl rfl rfl).trans (by rw [hb21]; rfl)) rfl rfl ?_; clear hF; intro a hF
          refine l_offg hF ((wanted_of hF rfl rfl rfl rfl).trans (by rw [hb21]; rfl)) rfl rfl ?_; clear hF; intro a hF
          refine l_offg hF ((wanted_of hF rfl rfl rfl rfl).trans (by rw [hb21]; rfl)) rfl rfl ?_; clear hF; intro a hF
          refine l_offg hF ((wanted_of hF rfl rfl rfl rfl).trans (by rw [hb21]; rfl)) rfl rfl ?_; clear hF; intro a hF
          refine l_offg hF ((wanted_of hF rfl rfl rfl rfl).trans (by rw [hb21]; rfl)) rfl rfl ?_; clear hF; intro a hF
          refine l_at hF rfl rfl rfl (x_pickT (hF.tmp 21 rfl) hb21 rfl) ?_; clear hF; intro a hF
          refine wpList_nil ?_
          refine hK7 _ _ ?_
          refine wp_cond_true (hF.tmp 29 rfl) ?_
          refine wp_seq_k fun khK9 hK9 => ?_
          refine wp_region_lit ?_
          refine l_at hF rfl rfl rfl (x_assign rfl) ?_; clear hF; intro a hF
          refine wpList_nil ?_
          refine hK9 _ _ ?_
          refine wp_ret ?_
          try simp only [Exit.then, Exit.inBlock]
          exact fin_ret hF (res1 hF rfl rfl) ⟨by rw [hz] <;> rfl, hH.mods⟩
        · have hc21 := hb21; try simp only [Bool.or_eq_true, Bool.and_eq_true, Bool.or_eq_false_iff, Bool.and_eq_false_iff, Bool.not_eq_true', Bool.not_eq_false', decide_eq_true_eq, decide_eq_false_iff_not, Bool.not_true, Bool.not_false] at hc21
          refine l_atg hF ((wanted_of hF rfl rfl rfl rfl).trans (by rw [hb21]; rfl)) rfl rfl (x_move (hF.tmp 0 rfl)) ?_; clear hF; intro a hF
          refine l_atg hF ((wanted_of hF rfl rfl rfl rfl).trans (by rw [hb21]; rfl)) rfl rfl (x_move (hF.tmp 3 rfl)) ?_; clear hF; intro a hF
          refine l_atg hF ((wanted_of hF rfl rfl rfl rfl).trans (by rw [hb21]; rfl)) rfl rfl (x_iaddr_A Tryd.underlying28 ty38 ((hH.rd 901 rfl)) (hF.tmp 22 rfl) (hF.tmp 23 rfl) (by omega) (by omega) _) ?_; clear hF; intro a hF
          refine l_atg hF ((wanted_of hF rfl rfl rfl rfl).trans (by rw [hb21]; rfl)) rfl rfl (x_faddrA ((hH.rd 901 rfl)) (by omega) _ Tryd.underlying38 rfl ty9 (by decide) (hF.tmp 24 rfl) rfl) ?_; clear hF; intro a hF
          refine l_atg hF ((wanted_of hF rfl rfl rfl rfl).trans (by rw [hb21]; rfl)) rfl rfl (x_load1 ty9 (hF.tmp 25 rfl) (hH.holds 1502 _ rfl)) ?_; clear hF; intro a hF
          refine l_atg hF ((wanted_of hF rfl rfl rfl rfl).trans (by rw [hb21]; rfl)) rfl rfl (x_len_sn (xs := ((gst xs (k : Int)).2.2.1)) Tryd.underlying9 (hF.tmp 26 rfl)) ?_; clear hF; intro a hF
          refine l_atg hF ((wanted_of hF rfl rfl rfl rfl).trans (by rw [hb21]; rfl)) rfl rfl (x_gtr (hF.tmp 27 rfl) rfl) ?_; clear hF; intro a hF
          refine l_at hF rfl rfl rfl (x_pickF (hF.tmp 21 rfl) hb21 (hF.tmp 28 rfl)) ?_; clear hF; intro a hF
          refine wpList_nil ?_
          refine hK7 _ _ ?_
          refine wp_cond_split (hF.tmp 29 rfl) (fun hc29 => ?_) (fun hc29 => ?_)
          · have hk29_2 := hc29; try simp only [Bool.or_eq_true, Bool.and_eq_true, Bool.or_eq_false_iff, Bool.and_eq_false_iff, Bool.not_eq_true', Bool.not_eq_false', decide_eq_true_eq, decide_eq_false_iff_not, Bool.not_true, Bool.not_false] at hc29
            have hz := fewS_long (by omega) (.inr hc29)
            refine wp_seq_k fun khK10 hK10 => ?_
            refine wp_region_lit ?_
            refine l_at hF rfl rfl rfl (x_assign rfl) ?_; clear hF; intro a hF
            refine wpList_nil ?_
            refine hK10 _ _ ?_
            refine wp_ret ?_
            try simp only [Exit.then, Exit.inBlock]
            exact fin_ret hF (res1 hF rfl rfl) ⟨by rw [hz] <;> rfl, hH.mods⟩
          · have hk29_3 := hc29; try simp only [Bool.or_eq_true, Bool.and_eq_true, Bool.or_eq_false_iff, Bool.and_eq_false_iff, Bool.not_eq_true', Bool.not_eq_false', decide_eq_true_eq, decide_eq_false_iff_not, Bool.not_true, Bool.not_false] at hc29
            refine wp_skip ?_
            refine hK6 _ _ ?_
            refine wp_region_lit ?_
            refine l_at hF rfl rfl rfl (x_move (hF.tmp 3 rfl)) ?_; clear hF; intro a hF
            refine l_at hF rfl rfl rfl (x_add (hF.tmp 8 rfl) rfl (w64 (by omega) (by omega))) ?_; clear hF; intro a hF
            refine l_at hF rfl rfl rfl (x_assign (hF.tmp 9 rfl)) ?_; clear hF; intro a hF
            refine wpList_nil ?_
            exact ⟨_, by omega, ⟨k + 1, rfl, by omega, shortS_step hc7 hq0_1 hc21 hc29, by omega, ((hF.bare.add hF 3 rfl).add hF 0 rfl), hH.sub _ (sub_cons (sub_nil _) 901 rfl)⟩⟩
    · have hk7_4 := hc7; try simp only [Bool.or_eq_true, Bool.and_eq_true, Bool.or_eq_false_iff, Bool.and_eq_false_iff, Bool.not_eq_true', Bool.not_eq_false', decide_eq_true_eq, decide_eq_false_iff_not, Bool.not_true, Bool.not_false] at hc7
      obtain rfl : k = xs.length := by omega
      rw [List.take_length] at hq0_1
      have hz := fewS_yes (by omega) hq0_1
      refine wp_exit ?_
      refine hK2 _ _ ?_
      refine wp_seq_k fun khK11 hK11 => ?_
      refine wp_region_lit ?_
      refine l_at hF rfl rfl rfl (x_assign rfl) ?_; clear hF; intro a hF
      refine wpList_nil ?_
      refine hK11 _ _ ?_
      refine wp_ret ?_
      try simp only [Exit.then, Exit.inBlock]
      exact fin_ret hF (res1 hF rfl rfl) ⟨by rw [hz] <;> rfl, hH.mods⟩

set_option maxRecDepth 100000 in
set_option maxHeartbeats 1000000 in
theorem step_calls (w0 : World) (hL : LibAt w0) {x : Fld} {okx : Nat → Prop} {Ax : Option Addr} {cx : Nat} (hrx : Rd (.int .u8) w0 okx Ax x.2 cx) (hs : x.2.length ≤ 100000) (hby : Byte x.2) : Calls Tryd.prog 36 #[.agg #[.int .i64 x.1, .slice Ax x.2.length cx]] w0 fun e w' => ∃ s : StepD, e = .returned (.tuple #[.agg #[.int .i64 s.1, .string (strOfNums s.2.1), .string (strOfNums s.2.2.1), .int .i64 s.2.2.2], .bool (stepF x).isSome]) ∧ Mods (fun _ => False) w0 w' ∧ ∀ s', stepF x = some s' → s = s' := by
  refine calls_of_wp Tryd.func36 rfl ?_
  have hF := Fr.enter #[.agg #[.int .i64 x.1, .slice Ax x.2.length cx]] 53 (slotsOf [.agg #[.int .i64 x.1, .slice Ax x.2.length cx]] 0) (Nat.le_of_ble_eq_true rfl) (fun i v h => by have h2 := (get_slotsOf _ 0 i v h).2; simpa only [List.getElem?_toArray, Nat.sub_zero] using h2)
  have hH := Hp.nil (fun _ => False) w0
  rw [Tryd.ntmps36]
  revert hF; generalize (⟨(#[.agg #[.int .i64 x.1, .slice Ax x.2.length cx]] : Array Value) ++ Array.replicate (53 - (#[.agg #[.int .i64 x.1, .slice Ax x.2.length cx]] : Array Value).size) undef, []⟩ : Act) = a; intro hF
  have hH := hH.libN 990 hL
  have hH := hH.arg 902 hrx.all (fun _ h => ⟨h, fun h => h⟩)
  refine wp_seq_k fun khK1 hK1 => ?_
  refine wp_region_lit ?_
  refine wpList_plain rfl fun K hK => ?_
  refine w_box 1 hF hH rfl (hF.tmp 0 rfl) ?_
  clear hF hH; intro a w b1 hF hH
  refine hK _ _ ?_; clear hK K
  refine wpList_plain rfl fun K hK => ?_
  refine w_alloc 2 hF hH rfl ty38 ?_
  clear hF hH; intro a w b2 hF hH
  refine hK _ _ ?_; clear hK K
  refine l_at hF rfl rfl rfl (x_assign rfl) ?_; clear hF; intro a hF
  refine wpList_nil ?_
  refine hK1 _ _ ?_
  refine wp_seq_k fun khK2 hK2 => ?_
  refine wp_region_lit ?_
  refine l_at hF rfl rfl rfl (x_faddr Tryd.underlying64 rfl ty29 (by decide) (hF.tmp 1 rfl) rfl) ?_; clear hF; intro a hF
  refine l_at hF rfl rfl rfl (x_load1 ty29 (hF.tmp 8 rfl) (blk_cell (hH.at 1 rfl) 1 rfl)) ?_; clear hF; intro a hF
  refine l_at hF rfl rfl rfl (x_b2s Tryd.underlying29 Tryd.underlying5 Tryd.underlying9 ((hH.rd 902 rfl)) (hF.tmp 9 rfl)) ?_; clear hF; intro a hF
  refine l_at hF rfl rfl rfl (x_assign (hF.tmp 10 rfl)) ?_; clear hF; intro a hF
  refine wpList_nil ?_
  refine hK2 _ _ ?_
  refine wp_seq_k fun khK3 hK3 => ?_
  refine wp_seq_k fun khK4 hK4 => ?_
  refine wp_region_lit ?_
  refine l_at hF rfl rfl rfl (x_move (hF.tmp 4 rfl)) ?_; clear hF; intro a hF
  refine l_at hF rfl rfl rfl (x_eqn0 (xs := x.2) (hF.tmp 11 rfl) (show _ = Value.string (strOfNums ([] : List Int)) by kernel_rfl)) ?_; clear hF; intro a hF
  refine l_at hF rfl rfl rfl (x_move (hF.tmp 12 rfl)) ?_; clear hF; intro a hF
  refine split_bool hF 13 rfl (fun hb13 => ?_) (fun hb13 => ?_)
  · have hc13 := hb13; try simp only [Bool.or_eq_true, Bool.and_eq_true, Bool.or_eq_false_iff, Bool.and_eq_false_iff, Bool.not_eq_true', Bool.not_eq_false', decide_eq_true_eq, decide_eq_false_iff_not, Bool.not_true, Bool.not_false] at hc13
    have hz := stepF_short (.inl hc13)
    refine l_offg hF ((wanted_of hF rfl rfl rfl rfl).trans (by rw [hb13]; rfl)) rfl rfl ?_; clear hF; intro a hF
    refine l_offg hF ((wanted_of hF rfl rfl rfl rfl).trans (by rw [hb13]; rfl)) rfl rfl ?_; clear hF; intro a hF
    refine l_offg hF ((wanted_of hF rfl rfl rfl rfl).trans (by rw [hb13]; rfl)) rfl rfl ?_; clear hF; intro a hF
    refine l_offg hF ((wanted_of hF rfl rfl rfl rfl).trans (by rw [hb13]; rfl)) rfl rfl ?_; clear hF; intro a hF
    refine l_offg hF ((wanted_of hF rfl rfl rfl rfl).trans (by rw [hb13]; rfl)) rfl rfl ?_; clear hF; intro a hF
    refine l_offg hF ((wanted_of hF rfl rfl rfl rfl).trans (by rw [hb13]; rfl)) rfl rfl ?_; clear hF; intro a hF
    refine l_at hF rfl rfl rfl (x_pickT (hF.tmp 13 rfl) hb13 rfl) ?_; clear hF; intro a hF
    refine wpList_nil ?_
    refine hK4 _ _ ?_
    refine wp_cond_true (hF.tmp 20 rfl) ?_
    refine wp_seq_k fun khK5 hK5 => ?_
    refine wp_region_lit ?_
    refine l_at hF rfl rfl rfl (x_buildS (cells := #[.int .i64 0, .string (strOfNums []), .string (strOfNums []), .int .i64 0]) (places := #[(0, 1), (1, 1), (2, 1), (3, 1)]) Tryd.underlying38 ty38 (by kernel_rfl) Array.map_empty rfl) ?_; clear hF; intro a hF
    refine wpList_plain rfl fun K hK => ?_
    refine w_storeA 2 hH ty38 rfl (hF.tmp 2 rfl) (hF.tmp 21 rfl) rfl (by simp [Value.cells, Value.oneCell']) rfl ?_
    clear hH; intro w hH
    refine hK _ _ ?_; clear hK K
    refine l_at hF rfl rfl rfl (x_assign rfl) ?_; clear hF; intro a hF
    refine wpList_nil ?_
    refine hK5 _ _ ?_
    refine wp_ret ?_
    try simp only [Exit.then, Exit.inBlock]
    exact fin_ret hF (resct hF rfl rfl rfl (hH.at 2 rfl) ty38 rfl) ⟨((0, [], [], 0) : StepD), by rw [hz] <;> rfl, hH.mods, fun s' h => by rw [hz] at h; cases h⟩
  · have hc13 := hb13; try simp only [Bool.or_eq_true, Bool.and_eq_true, Bool.or_eq_false_iff, Bool.and_eq_false_iff, Bool.not_eq_true', Bool.not_eq_false', decide_eq_true_eq, decide_eq_false_iff_not, Bool.not_true, Bool.not_false] at hc13
    refine l_atg hF ((wanted_of hF rfl rfl rfl rfl).trans (by rw [hb13]; rfl)) rfl rfl (x_move (hF.tmp 4 rfl)) ?_; clear hF; intro a hF
    refine l_atg hF ((wanted_of hF rfl rfl rfl rfl).trans (by rw [hb13]; rfl)) rfl rfl (x_len_sn (xs := x.2) Tryd.underlying9 (hF.tmp 14 rfl)) ?_; clear hF; intro a hF
    refine l_atg hF ((wanted_of hF rfl rfl rfl rfl).trans (by rw [hb13]; rfl)) rfl rfl (x_move (hF.tmp 4 rfl)) ?_; clear hF; intro a hF
    refine l_atg hF ((wanted_of hF rfl rfl rfl rfl).trans (by rw [hb13]; rfl)) rfl rfl (x_idxS (xs := x.2) Tryd.underlying9 (hF.tmp 16 rfl) rfl hby (by omega) (by omega)) ?_; clear hF; intro a hF
    refine l_atg hF ((wanted_of hF rfl rfl rfl rfl).trans (by rw [hb13]; rfl)) rfl rfl (x_conv Tryd.underlying3 ⟨_, Tryd.underlying5⟩ (hF.tmp 17 rfl) (w64 (by have := (hby.gi 0).1; have := (hby.gi 0).2; omega) (by have := (hby.gi 0).1; have := (hby.gi 0).2; omega))) ?_; clear hF; intro a hF
    refine l_atg hF ((wanted_of hF rfl rfl rfl rfl).trans (by rw [hb13]; rfl)) rfl rfl (x_leq (hF.tmp 15 rfl) (hF.tmp 18 rfl)) ?_; clear hF; intro a hF
    refine l_at hF rfl rfl rfl (x_pickF (hF.tmp 13 rfl) hb13 (hF.tmp 19 rfl)) ?_; clear hF; intro a hF
    refine wpList_nil ?_
    refine hK4 _ _ ?_
    refine wp_cond_split (hF.tmp 20 rfl) (fun hc20 => ?_) (fun hc20 => ?_)
    · have hk20_1 := hc20; try simp only [Bool.or_eq_true, Bool.and_eq_true, Bool.or_eq_false_iff, Bool.and_eq_false_iff, Bool.not_eq_true', Bool.not_eq_false', decide_eq_true_eq, decide_eq_false_iff_not, Bool.not_true, Bool.not_false] at hc20
      have hz := stepF_short (.inr hc20)
      refine wp_seq_k fun khK6 hK6 => ?_
      refine wp_region_lit ?_
      refine l_at hF rfl rfl rfl (x_buildS (cells := #[.int .i64 0, .string (strOfNums []), .string (strOfNums []), .int .i64 0]) (places := #[(0, 1), (1, 1), (2, 1), (3, 1)]) Tryd.underlying38 ty38 (by kernel_rfl) Array.map_empty rfl) ?_; clear hF; intro a hF
      refine wpList_plain rfl fun K hK => ?_
      refine w_storeA 2 hH ty38 rfl (hF.tmp 2 rfl) (hF.tmp 21 rfl) rfl (by simp [Value.cells, Value.oneCell']) rfl ?_
      clear hH; intro w hH
      refine hK _ _ ?_; clear hK K
      refine l_at hF rfl rfl rfl (x_assign rfl) ?_; clear hF; intro a hF
      refine wpList_nil ?_
      refine hK6 _ _ ?_
      refine wp_ret ?_
      try simp only [Exit.then, Exit.inBlock]
      exact fin_ret hF (resct hF rfl rfl rfl (hH.at 2 rfl) ty38 rfl) ⟨((0, [], [], 0) : StepD), by rw [hz] <;> rfl, hH.mods, fun s' h => by rw [hz] at h; cases h⟩
    · have hk20_2 := hc20; try simp only [Bool.or_eq_true, Bool.and_eq_true, Bool.or_eq_false_iff, Bool.and_eq_false_iff, Bool.not_eq_true', Bool.not_eq_false', decide_eq_true_eq, decide_eq_false_iff_not, Bool.not_true, Bool.not_false] at hc20
      refine wp_skip ?_
      refine hK3 _ _ ?_
      refine wp_seq_k fun khK7 hK7 => ?_
      refine wp_region_lit ?_
      refine l_at hF rfl rfl rfl (x_move (hF.tmp 4 rfl)) ?_; clear hF; intro a hF
      refine l_at hF rfl rfl rfl (x_idxS (xs := x.2) Tryd.underlying9 (hF.tmp 22 rfl) rfl hby (by omega) (by omega)) ?_; clear hF; intro a hF
      refine l_at hF rfl rfl rfl (x_conv Tryd.underlying3 ⟨_, Tryd.underlying5⟩ (hF.tmp 23 rfl) (w64 (by have := (hby.gi 0).1; have := (hby.gi 0).2; omega) (by have := (hby.gi 0).1; have := (hby.gi 0).2; omega))) ?_; clear hF; intro a hF
      refine l_at hF rfl rfl rfl (x_add rfl (hF.tmp 24 rfl) (w64 (by have := (hby.gi 0).1; have := (hby.gi 0).2; omega) (by have := (hby.gi 0).1; have := (hby.gi 0).2; omega))) ?_; clear hF; intro a hF
      refine l_at hF rfl rfl rfl (x_assign (hF.tmp 25 rfl)) ?_; clear hF; intro a hF
      refine wpList_nil ?_
      refine hK7 _ _ ?_
      refine wp_seq_k fun khK8 hK8 => ?_
      refine r_start [(1, .blk b1 (.cells #[.int .i64 x.1, .slice Ax x.2.length cx] 64 (0, 0)))] (by kernel_rfl) hH fun hH => ?_
      have hS : SL [(1, .blk b1 (.cells #[.int .i64 x.1, .slice Ax x.2.length cx] 64 (0, 0)))] _ := SL.of hH (sub_cons (sub_nil _) 1 rfl)
      refine r_take 0 hF rfl rfl rfl (by kernel_rfl) (by kernel_rfl) (by kernel_rfl) (fun _ _ _ h => h) rfl hS (fun w hS => x_faddr Tryd.underlying64 rfl ty3 (by decide) (hF.tmp 1 rfl) rfl) rfl ?_; clear hF; intro a hF
      refine r_take 1 hF rfl rfl rfl (by kernel_rfl) (by kernel_rfl) (by kernel_rfl) (fun _ _ _ h => h) rfl hS (fun w hS => x_load1 ty3 (hF.tmp 26 rfl) (blk_cell (SL.at_ hS 1 rfl) 0 rfl)) rfl ?_; clear hF; intro a hF
      refine r_take 2 hF rfl rfl rfl (by kernel_rfl) (by kernel_rfl) (by kernel_rfl) (fun _ _ _ h => h) rfl hS (fun w hS => x_move (hF.tmp 4 rfl)) rfl ?_; clear hF; intro a hF
      refine r_take 3 hF rfl rfl rfl (by kernel_rfl) (by kernel_rfl) (by kernel_rfl) (fun _ _ _ h => h) rfl hS (fun w hS => x_move (hF.tmp 5 rfl)) rfl ?_; clear hF; intro a hF
      refine r_take 4 hF rfl rfl rfl (by kernel_rfl) (by kernel_rfl) (by kernel_rfl) (fun _ _ _ h => h) rfl hS (fun w hS => x_sliceSlh (xs := x.2) Tryd.underlying9 (hF.tmp 28 rfl) rfl (hF.tmp 29 rfl) (by omega) (by have := (hby.gi 0).1; have := (hby.gi 0).2; omega) (by omega)) rfl ?_; clear hF; intro a hF
      refine r_take 5 hF rfl rfl rfl (by kernel_rfl) (by kernel_rfl) (by kernel_rfl) (fun _ _ _ h => h) rfl hS (fun w hS => x_buildS (cells := #[.int .i64 x.1, .string (strOfNums (keyF x)), .string (strOfNums []), .int .i64 0]) (places := #[(0, 1), (1, 1), (2, 1), (3, 1)]) Tryd.underlying38 ty38 (by kernel_rfl) (by simp only [List.map_toArray, List.map_cons, List.map_nil, hF.tmp 27 rfl, hF.tmp 30 rfl] <;> rfl) rfl) rfl ?_; clear hF; intro a hF
      refine r_do 6 rfl (by kernel_rfl) rfl rfl ?_
      refine w_alloc 6 hF hH rfl ty38 ?_
      clear hF hH; intro a w b6 hF hH
      clear hS; have hS : SL _ _ := SL.of hH (sub_cons (sub_nil _) 1 rfl); refine ⟨hS, ?_⟩
      refine r_do 7 rfl (by kernel_rfl) rfl rfl ?_
      refine w_storeA 6 hH ty38 rfl (hF.tmp 6 rfl) (hF.tmp 31 rfl) rfl (by simp [Value.cells, Value.oneCell']) rfl ?_
      clear hH; intro w hH
      clear hS; have hS : SL _ _ := SL.of hH (sub_cons (sub_nil _) 1 rfl); refine ⟨hS, ?_⟩
      refine r_end (by kernel_rfl) ?_; clear hS
      refine hK8 _ _ ?_
      refine wp_seq_k fun khK9 hK9 => ?_
      refine wp_region_lit ?_
      refine l_at hF rfl rfl rfl (x_assign rfl) ?_; clear hF; intro a hF
      refine wpList_nil ?_
      refine hK9 _ _ ?_
      refine wp_seq_k fun khK10 hK10 => ?_
      refine wp_seq_k fun khK11 hK11 => ?_
      refine wp_region_lit ?_
      refine l_at hF rfl rfl rfl (x_faddr Tryd.underlying38 rfl ty36 (by decide) (hF.tmp 6 rfl) rfl) ?_; clear hF; intro a hF
      refine l_at hF rfl rfl rfl (x_load1 ty36 (hF.tmp 32 rfl) (blk_cell (hH.at 6 rfl) 0 rfl)) ?_; clear hF; intro a hF
      refine l_at hF rfl rfl rfl (x_eql (hF.tmp 33 rfl) rfl) ?_; clear hF; intro a hF
      refine wpList_nil ?_
      refine hK11 _ _ ?_
      refine wp_cond_split (hF.tmp 34 rfl) (fun hc34 => ?_) (fun hc34 => ?_)
      · have hk34_3 := hc34; try simp only [Bool.or_eq_true, Bool.and_eq_true, Bool.or_eq_false_iff, Bool.and_eq_false_iff, Bool.not_eq_true', Bool.not_eq_false', decide_eq_true_eq, decide_eq_false_iff_not, Bool.not_true, Bool.not_false] at hc34
        refine wp_region_lit ?_
        refine l_at hF rfl rfl rfl (x_move (hF.tmp 4 rfl)) ?_; clear hF; intro a hF
        refine l_at hF rfl rfl rfl (x_move (hF.tmp 5 rfl)) ?_; clear hF; intro a hF
        refine l_at hF rfl rfl rfl (x_sliceSl (xs := x.2) Tryd.underlying9 (hF.tmp 36 rfl) (hF.tmp 37 rfl) (by have := (hby.gi 0).1; have := (hby.gi 0).2; omega) (by omega)) ?_; clear hF; intro a hF
        refine wpList_plain rfl fun K hK => ?_
        refine w_call hF (x_enter Tryd.func31 (by kernel_rfl) rfl (by simp only [List.map_toArray, List.map_cons, List.map_nil, hF.tmp 38 rfl] <;> rfl)) (number_calls _ (hH.holds 990 _ rfl) (by rw [List.length_drop]; omega) (hby.drop _)) rfl rfl ?_
        rintro _ w ⟨vn, rfl, hm_, hvn⟩; refine ⟨_, rfl, ?_⟩; clear hF; intro a hF; have hH := hH.same hm_
        refine hK _ _ ?_; clear hK K
        refine l_at hF rfl rfl rfl (x_move (hF.tmp 39 rfl)) ?_; clear hF; intro a hF
        refine l_at hF rfl rfl rfl (x_extract (hF.tmp 35 rfl) rfl) ?_; clear hF; intro a hF
        refine l_at hF rfl rfl rfl (x_extract (hF.tmp 35 rfl) rfl) ?_; clear hF; intro a hF
        refine l_at hF rfl rfl rfl (x_faddr Tryd.underlying38 rfl ty2 (by decide) (hF.tmp 6 rfl) rfl) ?_; clear hF; intro a hF
        refine wpList_plain rfl fun K hK => ?_
        refine w_store 6 hH ty2 rfl (hF.tmp 42 rfl) (hF.tmp 40 rfl) rfl (one1 rfl rfl) (by first | decide | exact Nat.le_of_ble_eq_true rfl) ?_
        clear hH; intro w hH
        refine hK _ _ ?_; clear hK K
        have hz := stepF_add hc13 hc20 hc34 hvn
        refine l_at hF rfl rfl rfl (x_assign (hF.tmp 41 rfl)) ?_; clear hF; intro a hF
        refine wpList_nil ?_
        refine hK10 _ _ ?_
        refine wp_seq_k fun khK12 hK12 => ?_
        refine r_start [(6, .blk b6 (.cells #[.int .i64 ((x.1, keyF x, [], vn) : StepD).1, .string (strOfNums ((x.1, keyF x, [], vn) : StepD).2.1), .string (strOfNums ((x.1, keyF x, [], vn) : StepD).2.2.1), .int .i64 ((x.1, keyF x, [], vn) : StepD).2.2.2] 38 (0, 0)))] (by kernel_rfl) hH fun hH => ?_
        have hS : SL [(6, .blk b6 (.cells #[.int .i64 ((x.1, keyF x, [], vn) : StepD).1, .string (strOfNums ((x.1, keyF x, [], vn) : StepD).2.1), .string (strOfNums ((x.1, keyF x, [], vn) : StepD).2.2.1), .int .i64 ((x.1, keyF x, [], vn) : StepD).2.2.2] 38 (0, 0)))] _ := SL.of hH (sub_cons (sub_nil _) 6 rfl)
        refine r_take 0 hF rfl rfl rfl (by kernel_rfl) (by kernel_rfl) (by kernel_rfl) (fun _ _ _ h => h) rfl hS (fun w hS => x_loadn ty38 (hF.tmp 6 rfl) rfl (blk_whole (SL.at_ hS 6 rfl))) rfl ?_; clear hF; intro a hF
        refine r_take 1 hF rfl rfl rfl (by kernel_rfl) (by kernel_rfl) (by kernel_rfl) (fun _ _ _ h => h) rfl hS (fun w hS => x_move (hF.tmp 7 rfl)) rfl ?_; clear hF; intro a hF
        refine r_take 2 hF rfl rfl rfl (by kernel_rfl) (by kernel_rfl) (by kernel_rfl) (fun _ _ _ h => h) rfl hS (fun w hS => x_move (hF.tmp 48 rfl)) rfl ?_; clear hF; intro a hF
        refine split_bool hF 49 rfl (fun hb49 => ?_) (fun hb49 => ?_)
        · have hc49 := hb49; try simp only [Bool.or_eq_true, Bool.and_eq_true, Bool.or_eq_false_iff, Bool.and_eq_false_iff, Bool.not_eq_true', Bool.not_eq_false', decide_eq_true_eq, decide_eq_false_iff_not, Bool.not_true, Bool.not_false] at hc49
          refine r_take 3 hF rfl rfl rfl (by kernel_rfl) (by kernel_rfl) (by kernel_rfl) (fun _ _ _ h => h) ((wanted_of hF rfl rfl rfl rfl).trans (by rw [hb49]; rfl)) hS (fun w hS => x_loadn ty38 (hF.tmp 6 rfl) rfl (blk_whole (SL.at_ hS 6 rfl))) rfl ?_; clear hF; intro a hF
          refine r_do 4 rfl (by kernel_rfl) ((wanted_of hF rfl rfl rfl rfl).trans (by rw [hb49]; rfl)) rfl ?_
          refine w_call hF (x_enter Tryd.func19 (by kernel_rfl) rfl (by simp only [List.map_toArray, List.map_cons, List.map_nil, hF.tmp 50 rfl] <;> rfl)) (right_calls _ ((x.1, keyF x, [], vn) : StepD)) rfl rfl ?_
          rintro _ w ⟨rfl, hm_⟩; refine ⟨_, rfl, ?_⟩; clear hF; intro a hF; have hH := hH.same hm_
          clear hS; have hS : SL _ _ := SL.of hH (sub_cons (sub_nil _) 6 rfl); refine ⟨hS, ?_⟩
          refine r_take 5 hF rfl rfl rfl (by kernel_rfl) (by kernel_rfl) (by kernel_rfl) (fun _ _ _ h => h) rfl hS (fun w hS => x_pickT (hF.tmp 49 rfl) hb49 (hF.tmp 51 rfl)) rfl ?_; clear hF; intro a hF
          refine r_do 6 rfl (by kernel_rfl) rfl rfl ?_
          refine w_storeA 2 hH ty38 rfl (hF.tmp 2 rfl) (hF.tmp 47 rfl) rfl (by simp [Value.cells, Value.oneCell']) rfl ?_
          clear hH; intro w hH
          clear hS; have hS : SL _ _ := SL.of hH (sub_cons (sub_nil _) 6 rfl); refine ⟨hS, ?_⟩
          refine r_take 7 hF rfl rfl rfl (by kernel_rfl) (by kernel_rfl) (by kernel_rfl) (fun _ _ _ h => h) rfl hS (fun w hS => x_assign (hF.tmp 52 rfl)) rfl ?_; clear hF; intro a hF
          refine r_end (by kernel_rfl) ?_; clear hS
          refine hK12 _ _ ?_
          refine wp_ret ?_
          try simp only [Exit.then, Exit.inBlock]
          have hq : (rightS ((x.1, keyF x, [], vn) : StepD)) = (stepF x).isSome := by rw [hz.1]; show _ = ((numI (List.drop (1 + gi x.2 0).toNat x.2)).isSome && _); rw [hb49]; rfl
          exact fin_ret hF (resct (u := .bool (rightS ((x.1, keyF x, [], vn) : StepD))) hF rfl rfl rfl (hH.at 2 rfl) ty38 rfl) ⟨((x.1, keyF x, [], vn) : StepD), by rw [← hq] <;> rfl, hH.mods, hz.2⟩
        · have hc49 := hb49; try simp only [Bool.or_eq_true, Bool.and_eq_true, Bool.or_eq_false_iff, Bool.and_eq_false_iff, Bool.not_eq_true', Bool.not_eq_false', decide_eq_true_eq, decide_eq_false_iff_not, Bool.not_true, Bool.not_false] at hc49
          refine r_off 3 hF rfl rfl rfl (by kernel_rfl) (by kernel_rfl) (by kernel_rfl) (fun _ _ _ h => h) ((wanted_of hF rfl rfl rfl rfl).trans (by rw [hb49]; rfl)) hS rfl ?_; clear hF; intro a hF
          refine r_off 4 hF rfl rfl rfl (by kernel_rfl) (by kernel_rfl) (by kernel_rfl) (fun _ _ _ h => h) ((wanted_of hF rfl rfl rfl rfl).trans (by rw [hb49]; rfl)) hS rfl ?_; clear hF; intro a hF
          refine r_take 5 hF rfl rfl rfl (by kernel_rfl) (by kernel_rfl) (by kernel_rfl) (fun _ _ _ h => h) rfl hS (fun w hS => x_pickF (hF.tmp 49 rfl) hb49 rfl) rfl ?_; clear hF; intro a hF
          refine r_do 6 rfl (by kernel_rfl) rfl rfl ?_
          refine w_storeA 2 hH ty38 rfl (hF.tmp 2 rfl) (hF.tmp 47 rfl) rfl (by simp [Value.cells, Value.oneCell']) rfl ?_
          clear hH; intro w hH
          clear hS; have hS : SL _ _ := SL.of hH (sub_cons (sub_nil _) 6 rfl); refine ⟨hS, ?_⟩
          refine r_take 7 hF rfl rfl rfl (by kernel_rfl) (by kernel_rfl) (by kernel_rfl) (fun _ _ _ h => h) rfl hS (fun w hS => x_assign (hF.tmp 52 rfl)) rfl ?_; clear hF; intro a hF
          refine r_end (by kernel_rfl) ?_; clear hS
          refine hK12 _ _ ?_
          refine wp_ret ?_
          try simp only [Exit.then, Exit.inBlock]
          have hq : false = (stepF x).isSome := by rw [hz.1]; show _ = ((numI (List.drop (1 + gi x.2 0).toNat x.2)).isSome && _); rw [hb49]; rfl
          exact fin_ret hF (resct (u := .bool false) hF rfl rfl rfl (hH.at 2 rfl) ty38 rfl) ⟨((x.1, keyF x, [], vn) : StepD), by rw [← hq] <;> rfl, hH.mods, hz.2⟩
      · have hk34_4 := hc34; try simp only [Bool.or_eq_true, Bool.and_eq_true, Bool.or_eq_false_iff, Bool.and_eq_false_iff, Bool.not_eq_true', Bool.not_eq_false', decide_eq_true_eq, decide_eq_false_iff_not, Bool.not_true, Bool.not_false] at hc34
        refine wp_region_lit ?_
        refine l_at hF rfl rfl rfl (x_move (hF.tmp 4 rfl)) ?_; clear hF; intro a hF
        refine l_at hF rfl rfl rfl (x_move (hF.tmp 5 rfl)) ?_; clear hF; intro a hF
        refine l_at hF rfl rfl rfl (x_sliceSl (xs := x.2) Tryd.underlying9 (hF.tmp 43 rfl) (hF.tmp 44 rfl) (by have := (hby.gi 0).1; have := (hby.gi 0).2; omega) (by omega)) ?_; clear hF; intro a hF
        refine l_at hF rfl rfl rfl (x_faddr Tryd.underlying38 rfl ty9 (by decide) (hF.tmp 6 rfl) rfl) ?_; clear hF; intro a hF
        refine wpList_plain rfl fun K hK => ?_
        refine w_store 6 hH ty9 rfl (hF.tmp 46 rfl) (hF.tmp 45 rfl) rfl (one1 rfl rfl) (by first | decide | exact Nat.le_of_ble_eq_true rfl) ?_
        clear hH; intro w hH
        refine hK _ _ ?_; clear hK K
        have hz := stepF_val hc13 hc20 hc34
        refine wpList_nil ?_
        refine hK10 _ _ ?_
        refine wp_seq_k fun khK13 hK13 => ?_
        refine r_start [(6, .blk b6 (.cells #[.int .i64 x.1, .string (strOfNums (keyF x)), .string (strOfNums (restF x)), .int .i64 0] 38 (0, 0)))] (by kernel_rfl) hH fun hH => ?_
        have hS : SL [(6, .blk b6 (.cells #[.int .i64 x.1, .string (strOfNums (keyF x)), .string (strOfNums (restF x)), .int .i64 0] 38 (0, 0)))] _ := SL.of hH (sub_cons (sub_nil _) 6 rfl)
        refine r_take 0 hF rfl rfl rfl (by kernel_rfl) (by kernel_rfl) (by kernel_rfl) (fun _ _ _ h => h) rfl hS (fun w hS => x_loadn ty38 (hF.tmp 6 rfl) rfl (blk_whole (SL.at_ hS 6 rfl))) rfl ?_; clear hF; intro a hF
        refine r_take 1 hF rfl rfl rfl (by kernel_rfl) (by kernel_rfl) (by kernel_rfl) (fun _ _ _ h => h) rfl hS (fun w hS => x_move (hF.tmp 7 rfl)) rfl ?_; clear hF; intro a hF
        refine r_take 2 hF rfl rfl rfl (by kernel_rfl) (by kernel_rfl) (by kernel_rfl) (fun _ _ _ h => h) rfl hS (fun w hS => x_move (hF.tmp 48 rfl)) rfl ?_; clear hF; intro a hF
        refine r_take 3 hF rfl rfl rfl (by kernel_rfl) (by kernel_rfl) (by kernel_rfl) (fun _ _ _ h => h) ((wanted_of hF rfl rfl rfl rfl).trans rfl) hS (fun w hS => x_loadn ty38 (hF.tmp 6 rfl) rfl (blk_whole (SL.at_ hS 6 rfl))) rfl ?_; clear hF; intro a hF
        refine r_do 4 rfl (by kernel_rfl) ((wanted_of hF rfl rfl rfl rfl).trans rfl) rfl ?_
        refine w_call hF (x_enter Tryd.func19 (by kernel_rfl) rfl (by simp only [List.map_toArray, List.map_cons, List.map_nil, hF.tmp 50 rfl] <;> rfl)) (right_calls _ ((x.1, keyF x, restF x, 0) : StepD)) rfl rfl ?_
        rintro _ w ⟨rfl, hm_⟩; refine ⟨_, rfl, ?_⟩; clear hF; intro a hF; have hH := hH.same hm_
        clear hS; have hS : SL _ _ := SL.of hH (sub_cons (sub_nil _) 6 rfl); refine ⟨hS, ?_⟩
        refine r_take 5 hF rfl rfl rfl (by kernel_rfl) (by kernel_rfl) (by kernel_rfl) (fun _ _ _ h => h) rfl hS (fun w hS => x_pickT (hF.tmp 49 rfl) rfl (hF.tmp 51 rfl)) rfl ?_; clear hF; intro a hF
        refine r_do 6 rfl (by kernel_rfl) rfl rfl ?_
        refine w_storeA 2 hH ty38 rfl (hF.tmp 2 rfl) (hF.tmp 47 rfl) rfl (by simp [Value.cells, Value.oneCell']) rfl ?_
        clear hH; intro w hH
        clear hS; have hS : SL _ _ := SL.of hH (sub_cons (sub_nil _) 6 rfl); refine ⟨hS, ?_⟩
        refine r_take 7 hF rfl rfl rfl (by kernel_rfl) (by kernel_rfl) (by kernel_rfl) (fun _ _ _ h => h) rfl hS (fun w hS => x_assign (hF.tmp 52 rfl)) rfl ?_; clear hF; intro a hF
        refine r_end (by kernel_rfl) ?_; clear hS
        refine hK13 _ _ ?_
        refine wp_ret ?_
        try simp only [Exit.then, Exit.inBlock]
        have hq : (rightS ((x.1, keyF x, restF x, 0) : StepD)) = (stepF x).isSome := by exact hz.1.symm
        exact fin_ret hF (resct (u := .bool (rightS ((x.1, keyF x, restF x, 0) : StepD))) hF rfl rfl rfl (hH.at 2 rfl) ty38 rfl) ⟨((x.1, keyF x, restF x, 0) : StepD), by rw [← hq] <;> rfl, hH.mods, hz.2⟩

set_option maxRecDepth 100000 in
set_option maxHeartbeats 1000000 in
theorem adec_calls (w0 : World) (hL : LibAt w0) {ok : Nat → Prop} {A : Option Addr} {bs : List Int} {c : Nat} (hrb : Rd (.int .u8) w0 ok A bs c) (hby : Byte bs) : Calls Tryd.prog 15 #[.slice A bs.length c] w0 fun e w' => ∃ v, e = .returned (.tuple #[v, .int .i64 (if (adecR bs).isSome then 0 else 12)]) ∧ Mods (fun _ => False) w0 w' ∧ RowOut StE 38 w0 w' v ((adecR bs).getD []) := by
  refine calls_of_wp Tryd.func15 rfl ?_
  have hF := Fr.enter #[.slice A bs.length c] 42 (slotsOf [.slice A bs.length c] 0) (Nat.le_of_ble_eq_true rfl) (fun i v h => by have h2 := (get_slotsOf _ 0 i v h).2; simpa only [List.getElem?_toArray, Nat.sub_zero] using h2)
  have hH := Hp.nil (fun _ => False) w0
  rw [Tryd.ntmps15]
  revert hF; generalize (⟨(#[.slice A bs.length c] : Array Value) ++ Array.replicate (42 - (#[.slice A bs.length c] : Array Value).size) undef, []⟩ : Act) = a; intro hF
  have hH := hH.arg 901 hrb.all (fun _ h => ⟨h, fun h => h⟩)
  have hleb := hrb.le; unfold maxLen at hleb
  have hH := hH.libN 990 hL
  refine wp_seq_k fun khK1 hK1 => ?_
  refine wp_region_lit ?_
  refine l_at hF rfl rfl rfl (x_assign rfl) ?_; clear hF; intro a hF
  refine l_at hF rfl rfl rfl (x_assign rfl) ?_; clear hF; intro a hF
  refine wpList_nil ?_
  refine hK1 _ _ ?_
  refine wp_seq_k fun khK2 hK2 => ?_
  refine wp_region_lit ?_
  refine l_at hF rfl rfl rfl (x_move (hF.tmp 0 rfl)) ?_; clear hF; intro a hF
  refine wpList_plain rfl fun K hK => ?_
  refine w_call hF (x_enter Tryd.func35 (by kernel_rfl) rfl (by simp only [List.map_toArray, List.map_cons, List.map_nil, hF.tmp 12 rfl] <;> rfl)) (dec_calls _ ((hH.rd 901 rfl)) hby) rfl rfl ?_
  rintro _ w ⟨vr41, rfl, hm_, okr41, hr_, hf_, ho41_⟩; refine ⟨_, rfl, ?_⟩; clear hF; intro a hF; have hH := hH.newRow 41 hm_ hr_ hf_ ho41_; obtain ⟨Ar41, cr41, rfl⟩ := (hH.row 41 rfl).form
  refine hK _ _ ?_; clear hK K
  refine l_at hF rfl rfl rfl (x_move (hF.tmp 13 rfl)) ?_; clear hF; intro a hF
  refine l_at hF rfl rfl rfl (x_extract (hF.tmp 11 rfl) rfl) ?_; clear hF; intro a hF
  refine l_at hF rfl rfl rfl (x_extract (hF.tmp 11 rfl) rfl) ?_; clear hF; intro a hF
  refine l_at hF rfl rfl rfl (x_assign (hF.tmp 14 rfl)) ?_; clear hF; intro a hF
  refine l_at hF rfl rfl rfl (x_assign (hF.tmp 15 rfl)) ?_; clear hF; intro a hF
  refine wpList_nil ?_
  refine hK2 _ _ ?_
  refine wp_seq_k fun khK3 hK3 => ?_
  refine wp_seq_k fun khK4 hK4 => ?_
  refine wp_region_lit ?_
  refine l_at hF rfl rfl rfl (x_move (hF.tmp 5 rfl)) ?_; clear hF; intro a hF
  refine l_at hF rfl rfl rfl (x_neq (hF.tmp 16 rfl) rfl) ?_; clear hF; intro a hF
  refine l_at hF rfl rfl rfl (x_move (hF.tmp 17 rfl)) ?_; clear hF; intro a hF
  refine split_bool hF 18 rfl (fun hb18 => ?_) (fun hb18 => ?_)
  · have hc18 := hb18; try simp only [Bool.or_eq_true, Bool.and_eq_true, Bool.or_eq_false_iff, Bool.and_eq_false_iff, Bool.not_eq_true', Bool.not_eq_false', decide_eq_true_eq, decide_eq_false_iff_not, Bool.not_true, Bool.not_false] at hc18
    have hz : adecR bs = none := adec_none (by cases hd : decR bs with | none => rfl | some l => rw [hd] at hc18; exact absurd rfl hc18)
    refine l_offg hF ((wanted_of hF rfl rfl rfl rfl).trans (by rw [hb18]; rfl)) rfl rfl ?_; clear hF; intro a hF
    refine l_offg hF ((wanted_of hF rfl rfl rfl rfl).trans (by rw [hb18]; rfl)) rfl rfl ?_; clear hF; intro a hF
    refine l_offg hF ((wanted_of hF rfl rfl rfl rfl).trans (by rw [hb18]; rfl)) rfl rfl ?_; clear hF; intro a hF
    refine l_at hF rfl rfl rfl (x_pickT (hF.tmp 18 rfl) hb18 rfl) ?_; clear hF; intro a hF
    refine wpList_nil ?_
    refine hK4 _ _ ?_
    refine wp_cond_true (hF.tmp 22 rfl) ?_
    refine wp_seq_k fun khK5 hK5 => ?_
    refine wp_region_lit ?_
    refine l_at hF rfl rfl rfl (x_assign rfl) ?_; clear hF; intro a hF
    refine l_at hF rfl rfl rfl (x_assign rfl) ?_; clear hF; intro a hF
    refine wpList_nil ?_
    refine hK5 _ _ ?_
    refine wp_ret ?_
    try simp only [Exit.then, Exit.inBlock]
    exact fin_ret hF (res2 hF rfl rfl rfl) ⟨.slice none 0 0, by rw [hz] <;> rfl, hH.mods, by rw [hz]; exact RowOut.nil _ _ _ _⟩
  · have hc18 := hb18; try simp only [Bool.or_eq_true, Bool.and_eq_true, Bool.or_eq_false_iff, Bool.and_eq_false_iff, Bool.not_eq_true', Bool.not_eq_false', decide_eq_true_eq, decide_eq_false_iff_not, Bool.not_true, Bool.not_false] at hc18
    obtain ⟨dl, hdl⟩ := dec_zero hc18
    refine l_atg hF ((wanted_of hF rfl rfl rfl rfl).trans (by rw [hb18]; rfl)) rfl rfl (x_move (hF.tmp 4 rfl)) ?_; clear hF; intro a hF
    refine l_atg hF ((wanted_of hF rfl rfl rfl rfl).trans (by rw [hb18]; rfl)) rfl rfl (x_len_slice Tryd.underlying62 (hF.tmp 19 rfl)) ?_; clear hF; intro a hF
    refine l_atg hF ((wanted_of hF rfl rfl rfl rfl).trans (by rw [hb18]; rfl)) rfl rfl (x_gtr (hF.tmp 20 rfl) rfl) ?_; clear hF; intro a hF
    refine l_at hF rfl rfl rfl (x_pickF (hF.tmp 18 rfl) hb18 (hF.tmp 21 rfl)) ?_; clear hF; intro a hF
    refine wpList_nil ?_
    refine hK4 _ _ ?_
    refine wp_cond_split (hF.tmp 22 rfl) (fun hc22 => ?_) (fun hc22 => ?_)
    · have hk22_1 := hc22; try simp only [Bool.or_eq_true, Bool.and_eq_true, Bool.or_eq_false_iff, Bool.and_eq_false_iff, Bool.not_eq_true', Bool.not_eq_false', decide_eq_true_eq, decide_eq_false_iff_not, Bool.not_true, Bool.not_false] at hc22
      have hz := adec_many hdl (by rw [hdl] at hc22; exact hc22)
      refine wp_seq_k fun khK6 hK6 => ?_
      refine wp_region_lit ?_
      refine l_at hF rfl rfl rfl (x_assign rfl) ?_; clear hF; intro a hF
      refine l_at hF rfl rfl rfl (x_assign rfl) ?_; clear hF; intro a hF
      refine wpList_nil ?_
      refine hK6 _ _ ?_
      refine wp_ret ?_
      try simp only [Exit.then, Exit.inBlock]
      exact fin_ret hF (res2 hF rfl rfl rfl) ⟨.slice none 0 0, by rw [hz] <;> rfl, hH.mods, by rw [hz]; exact RowOut.nil _ _ _ _⟩
    · have hk22_2 := hc22; try simp only [Bool.or_eq_true, Bool.and_eq_true, Bool.or_eq_false_iff, Bool.and_eq_false_iff, Bool.not_eq_true', Bool.not_eq_false', decide_eq_true_eq, decide_eq_false_iff_not, Bool.not_true, Bool.not_false] at hc22
      have h4 : ¬ 4 < (dl.length : Int) := by rw [hdl] at hc22; exact hc22
      have hsm : ∀ x ∈ dl, x.2.length ≤ 2000 := fun x hx => (okF_parts (List.all_eq_true.1 (enc_parts (enc_dec hby hdl)).1 x hx)).2.2
      refine wp_skip ?_
      refine hK3 _ _ ?_
      refine wp_seq_k fun khK7 hK7 => ?_
      refine wp_region_lit ?_
      refine l_at hF rfl rfl rfl (x_assign rfl) ?_; clear hF; intro a hF
      rw [hdl, Option.getD_some] at hF hH
      have hH := hH.freeze 41 rfl (fun kb => okr41 kb ∨ (Value.slice Ar41 dl.length cr41).ownBlock = some kb) (fun kb => Iff.rfl)
      have hH := hH.row0 6 StE 38
      refine wpList_nil ?_
      refine hK7 _ _ ?_
      refine wp_seq_k fun khK8 hK8 => ?_
      refine wp_seq_k fun khK9 hK9 => ?_
      refine wp_region_lit ?_
      refine l_at hF rfl rfl rfl (x_move (hF.tmp 4 rfl)) ?_; clear hF; intro a hF
      refine l_at hF rfl rfl rfl (x_len_slice Tryd.underlying62 (hF.tmp 23 rfl)) ?_; clear hF; intro a hF
      refine l_at hF rfl rfl rfl (x_move rfl) ?_; clear hF; intro a hF
      refine wpList_nil ?_
      refine hK9 _ _ ?_
      refine wp_block ?_
      refine wp_loop_ghost (fun n_ a w => ∃ k : Nat, ∃ out : List StepD, ∃ v6 : Value, n_ = dl.length - k ∧ (k ≤ dl.length) ∧ (stepsF (dl.take k) = some out) ∧ Fr 42 a [(6, v6), (23, .slice Ar41 dl.length cr41), (24, .int .i64 (dl.length : Int)), (25, .int .i64 (k : Int))] ∧ Hp (fun _ => False) w0 w [(901, .rd_ (.int .u8) A bs c (fun k => k < w0.heap.size)), (990, .lib), (41, .rd_ FE Ar41 dl cr41 (fun kb => okr41 kb ∨ (Value.slice Ar41 dl.length cr41).ownBlock = some kb)), (6, .row StE 38 v6 out (fun _ => False))]) (dl.length) ?_ ?_
      · exact ⟨0, [], .slice none 0 0, rfl, by omega, rfl, ((((hF.bare.add hF 25 rfl).add hF 24 rfl).add hF 23 rfl).add hF 6 rfl), hH.sub _ (sub_cons (sub_cons (sub_cons (sub_cons (sub_nil _) 6 rfl) 41 rfl) 990 rfl) 901 rfl)⟩
      · rintro _ a w ⟨k, out, v6, rfl, hq0_0, hq0_1, hF, hH⟩
        refine wp_seq_k fun khK10 hK10 => ?_
        refine wp_region_lit ?_
        refine l_at hF rfl rfl rfl (x_lss (hF.tmp 25 rfl) (hF.tmp 24 rfl)) ?_; clear hF; intro a hF
        refine wpList_nil ?_
        refine hK10 _ _ ?_
        refine wp_seq_k fun khK11 hK11 => ?_
        refine wp_cond_split (hF.tmp 26 rfl) (fun hc26 => ?_) (fun hc26 => ?_)
        · have hk26_3 := hc26; try simp only [Bool.or_eq_true, Bool.and_eq_true, Bool.or_eq_false_iff, Bool.and_eq_false_iff, Bool.not_eq_true', Bool.not_eq_false', decide_eq_true_eq, decide_eq_false_iff_not, Bool.not_true, Bool.not_false] at hc26
          refine wp_skip ?_
          refine hK11 _ _ ?_
          refine wp_seq_k fun khK12 hK12 => ?_
          refine wp_block ?_
          refine wp_seq_k fun khK13 hK13 => ?_
          refine wp_region_lit ?_
          obtain ⟨fA1, fc1, hfr1, hf1_0, hf1_1, hfw1⟩ := Rd.fld ((hH.rd 41 rfl)) (gf_some (xs := dl) (i := (k : Int)) (by omega) (by omega))
          have hH := hH.subrd 41 rfl 1001 hfr1 (fun _ h => h)
          have hH := hH.subcels 41 rfl 1499 hfw1 (Rd.inok ((hH.rd 41 rfl)) (by omega) _)
          have hH := hH.subcel 41 rfl 1500 hf1_0 (Rd.inok ((hH.rd 41 rfl)) (by omega) _)
          have hH := hH.subcel 41 rfl 1501 hf1_1 (Rd.inok ((hH.rd 41 rfl)) (by omega) _)
          have hmem : (gf dl (k : Int)) ∈ dl := List.mem_of_getElem? (gf_some (xs := dl) (i := (k : Int)) (by omega) (by omega))
          refine l_at hF rfl rfl rfl (x_iaddr_A Tryd.underlying62 ty64 ((hH.rd 41 rfl)) (hF.tmp 23 rfl) (hF.tmp 25 rfl) (by omega) (by omega) _) ?_; clear hF; intro a hF
          refine l_at hF rfl rfl rfl (x_loadn ty64 (hF.tmp 27 rfl) rfl (hH.holds 1499 _ rfl)) ?_; clear hF; intro a hF
          refine wpList_plain rfl fun K hK => ?_
          refine w_alloc 8 hF hH rfl ty64 ?_
          clear hF hH; intro a w b8 hF hH
          refine hK _ _ ?_; clear hK K
          refine wpList_plain rfl fun K hK => ?_
          refine w_storeA 8 hH ty64 rfl (hF.tmp 8 rfl) (hF.tmp 28 rfl) rfl (by simp [Value.cells, Value.oneCell']) rfl ?_
          clear hH; intro w hH
          refine hK _ _ ?_; clear hK K
          refine wpList_nil ?_
          refine hK13 _ _ ?_
          refine wp_seq_k fun khK14 hK14 => ?_
          refine wp_region_lit ?_
          refine l_at hF rfl rfl rfl (x_loadn ty64 (hF.tmp 8 rfl) rfl (blk_whole (hH.at 8 rfl))) ?_; clear hF; intro a hF
          refine wpList_plain rfl fun K hK => ?_
          refine w_call hF (x_enter Tryd.func36 (by kernel_rfl) rfl (by simp only [List.map_toArray, List.map_cons, List.map_nil, hF.tmp 30 rfl] <;> rfl)) (step_calls _ (hH.holds 990 _ rfl) (hH.rd 1001 rfl) (by have := hsm (gf dl (k : Int)) hmem; omega) (fld_bytes hby hdl _ hmem)) rfl rfl ?_
          rintro _ w ⟨s, rfl, hm_, hvs⟩; refine ⟨_, rfl, ?_⟩; clear hF; intro a hF; have hH := hH.same hm_
          refine hK _ _ ?_; clear hK K
          refine l_at hF rfl rfl rfl (x_move (hF.tmp 31 rfl)) ?_; clear hF; intro a hF
          refine l_at hF rfl rfl rfl (x_extract (hF.tmp 29 rfl) rfl) ?_; clear hF; intro a hF
          refine l_at hF rfl rfl rfl (x_extract (hF.tmp 29 rfl) rfl) ?_; clear hF; intro a hF
          refine wpList_plain rfl fun K hK => ?_
          refine w_alloc 9 hF hH rfl ty38 ?_
          clear hF hH; intro a w b9 hF hH
          refine hK _ _ ?_; clear hK K
          refine wpList_plain rfl fun K hK => ?_
          refine w_storeA 9 hH ty38 rfl (hF.tmp 9 rfl) (hF.tmp 32 rfl) rfl (by simp [Value.cells, Value.oneCell']) rfl ?_
          clear hH; intro w hH
          refine hK _ _ ?_; clear hK K
          refine l_at hF rfl rfl rfl (x_assign (hF.tmp 33 rfl)) ?_; clear hF; intro a hF
          refine wpList_nil ?_
          refine hK14 _ _ ?_
          refine wp_seq_k fun khK15 hK15 => ?_
          refine wp_seq_k fun khK16 hK16 => ?_
          refine wp_region_lit ?_
          refine l_at hF rfl rfl rfl (x_move (hF.tmp 10 rfl)) ?_; clear hF; intro a hF
          refine l_at hF rfl rfl rfl (x_not (hF.tmp 34 rfl)) ?_; clear hF; intro a hF
          refine wpList_nil ?_
          refine hK16 _ _ ?_
          refine wp_cond_split (hF.tmp 35 rfl) (fun hc35 => ?_) (fun hc35 => ?_)
          · have hk35_4 := hc35; try simp only [Bool.or_eq_true, Bool.and_eq_true, Bool.or_eq_false_iff, Bool.and_eq_false_iff, Bool.not_eq_true', Bool.not_eq_false', decide_eq_true_eq, decide_eq_false_iff_not, Bool.not_true, Bool.not_false] at hc35
            have hz : adecR bs = none := (adec_is hdl h4).trans (dec_stop hc26 (by simpa using hc35))
            refine wp_seq_k fun khK17 hK17 => ?_
            refine wp_region_lit ?_
            refine l_at hF rfl rfl rfl (x_assign rfl) ?_; clear hF; intro a hF
            refine l_at hF rfl rfl rfl (x_assign rfl) ?_; clear hF; intro a hF
            refine wpList_nil ?_
            refine hK17 _ _ ?_
            refine wp_ret ?_
            try simp only [Exit.then, Exit.inBlock]
            exact fin_ret hF (res2 hF rfl rfl rfl) ⟨.slice none 0 0, by rw [hz] <;> rfl, hH.mods, by rw [hz]; exact RowOut.nil _ _ _ _⟩
          · have hk35_5 := hc35; try simp only [Bool.or_eq_true, Bool.and_eq_true, Bool.or_eq_false_iff, Bool.and_eq_false_iff, Bool.not_eq_true', Bool.not_eq_false', decide_eq_true_eq, decide_eq_false_iff_not, Bool.not_true, Bool.not_false] at hc35
            obtain ⟨s2, hs2⟩ := Option.isSome_iff_exists.1 (show (stepF (gf dl (k : Int))).isSome = true by simpa using hc35)
            obtain rfl := hvs s2 hs2
            have hnx := dec_loop hc26 hq0_1 hs2
            refine wp_skip ?_
            refine hK15 _ _ ?_
            refine wp_region_lit ?_
            refine l_at hF rfl rfl rfl (x_move (hF.tmp 6 rfl)) ?_; clear hF; intro a hF
            refine l_at hF rfl rfl rfl (x_loadn ty38 (hF.tmp 9 rfl) rfl (blk_whole (hH.at 9 rfl))) ?_; clear hF; intro a hF
            refine wpList_plain rfl fun K hK => ?_
            refine w_lit1 38 StE s #[.int .i64 s.1, .string (strOfNums s.2.1), .string (strOfNums s.2.2.1), .int .i64 s.2.2.2] (fun _ => False) hF hH rfl Tryd.underlying28 ty38 (by simp only [List.map_toArray, List.map_cons, List.map_nil, hF.tmp 37 rfl] <;> rfl) (by decide) (by kernel_rfl) (st_mk (s : StepD)) (fun kb hk => hk.elim) ?_
            clear hF hH; intro a w b38 hF hb38_ hH
            refine hK _ _ ?_; clear hK K
            refine wpList_plain rfl fun K hK => ?_
            refine w_append 6 38 (xs := out) (ys := ([s])) hF hH rfl Tryd.underlying28 ty38 rfl rfl rfl rfl ((hH.rd 38 rfl)) (by intro k_ hk_; exact .inr hk_) (hF.tmp 36 rfl) (hF.tmp 38 rfl) (by have := stepsF_len hq0_1; rw [List.length_take] at this; simp only [List.length_cons, List.length_nil] at *; omega) (by have := stepsF_len hq0_1; rw [List.length_take] at this; simp only [List.length_cons, List.length_nil, maxLen] at *; omega) (fun _ => False) (fun w' v' h => st_any h) (fun k_ hk_ => hk_.elim) ?_
            clear hF hH; intro a w v39 hF hH
            refine hK _ _ ?_; clear hK K
            refine l_at hF rfl rfl rfl (x_assign (hF.tmp 39 rfl)) ?_; clear hF; intro a hF
            refine wpList_nil ?_
            refine hK12 _ _ ?_
            refine wp_region_lit ?_
            refine l_at hF rfl rfl rfl (x_add (hF.tmp 25 rfl) rfl (w64 (by omega) (by omega))) ?_; clear hF; intro a hF
            refine l_at hF rfl rfl rfl (x_move (hF.tmp 40 rfl)) ?_; clear hF; intro a hF
            refine wpList_nil ?_
            exact ⟨_, by omega, ⟨k + 1, out ++ [s], v39, rfl, by omega, hnx, ((((hF.bare.add hF 25 rfl).add hF 24 rfl).add hF 23 rfl).add hF 6 rfl), hH.sub _ (sub_cons (sub_cons (sub_cons (sub_cons (sub_nil _) 6 rfl) 41 rfl) 990 rfl) 901 rfl)⟩⟩
        · have hk26_6 := hc26; try simp only [Bool.or_eq_true, Bool.and_eq_true, Bool.or_eq_false_iff, Bool.and_eq_false_iff, Bool.not_eq_true', Bool.not_eq_false', decide_eq_true_eq, decide_eq_false_iff_not, Bool.not_true, Bool.not_false] at hc26
          obtain rfl : k = dl.length := by omega
          rw [List.take_length] at hq0_1
          have hz : adecR bs = some out := (adec_is hdl h4).trans hq0_1
          refine wp_exit ?_
          refine hK8 _ _ ?_
          refine wp_seq_k fun khK18 hK18 => ?_
          refine wp_region_lit ?_
          refine l_at hF rfl rfl rfl (x_move (hF.tmp 6 rfl)) ?_; clear hF; intro a hF
          refine l_at hF rfl rfl rfl (x_assign (hF.tmp 41 rfl)) ?_; clear hF; intro a hF
          refine l_at hF rfl rfl rfl (x_assign rfl) ?_; clear hF; intro a hF
          refine wpList_nil ?_
          refine hK18 _ _ ?_
          refine wp_ret ?_
          try simp only [Exit.then, Exit.inBlock]
          exact fin_ret hF (res2 hF rfl rfl rfl) ⟨v6, by rw [hz] <;> rfl, hH.mods, by rw [hz]; exact Hp.out hH 6 rfl⟩

set_option maxRecDepth 100000 in
set_option maxHeartbeats 1000000 in
theorem rnumber_calls (w0 : World) {xs : List Int} (hs : xs.length ≤ 100000000) (hb : Byte xs) : Calls Tryd.prog 38 #[.string (strOfNums xs)] w0 fun e w' => ∃ v, e = .returned (.tuple #[.int .i64 v, .bool (numI xs).isSome]) ∧ Mods (fun _ => False) w0 w' ∧ Fits v ∧ ∀ u, numI xs = some u → v = u := by
  have htl := tOf_len xs
  refine calls_of_wp Tryd.func38 rfl ?_
  have hF := Fr.enter #[.string (strOfNums xs)] 65 (slotsOf [.string (strOfNums xs)] 0) (Nat.le_of_ble_eq_true rfl) (fun i v h => by have h2 := (get_slotsOf _ 0 i v h).2; simpa only [List.getElem?_toArray, Nat.sub_zero] using h2)
  have hH := Hp.nil (fun _ => False) w0
  rw [Tryd.ntmps38]
  revert hF; generalize (⟨(#[.string (strOfNums xs)] : Array Value) ++ Array.replicate (65 - (#[.string (strOfNums xs)] : Array Value).size) undef, []⟩ : Act) = a; intro hF
  refine wp_seq_k fun khK1 hK1 => ?_
  refine wp_region_lit ?_
  refine l_at hF rfl rfl rfl (x_assign rfl) ?_; clear hF; intro a hF
  refine l_at hF rfl rfl rfl (x_assign rfl) ?_; clear hF; intro a hF
  refine wpList_nil ?_
  refine hK1 _ _ ?_
  refine wp_seq_k fun khK2 hK2 => ?_
  refine wp_region_lit ?_
  refine l_at hF rfl rfl rfl (x_move (hF.tmp 0 rfl)) ?_; clear hF; intro a hF
  refine l_at hF rfl rfl rfl (x_assign (hF.tmp 8 rfl)) ?_; clear hF; intro a hF
  refine wpList_nil ?_
  refine hK2 _ _ ?_
  refine wp_seq_k fun khK3 hK3 => ?_
  refine wp_seq_k fun khK4 hK4 => ?_
  refine wp_region_lit ?_
  refine l_at hF rfl rfl rfl (x_move (hF.tmp 4 rfl)) ?_; clear hF; intro a hF
  refine l_at hF rfl rfl rfl (x_len_sn (xs := xs) Tryd.underlying9 (hF.tmp 9 rfl)) ?_; clear hF; intro a hF
  refine l_at hF rfl rfl rfl (x_gtr (hF.tmp 10 rfl) rfl) ?_; clear hF; intro a hF
  refine l_at hF rfl rfl rfl (x_move (hF.tmp 11 rfl)) ?_; clear hF; intro a hF
  refine split_bool hF 12 rfl (fun hb12 => ?_) (fun hb12 => ?_)
  · have hc12 := hb12; try simp only [Bool.or_eq_true, Bool.and_eq_true, Bool.or_eq_false_iff, Bool.and_eq_false_iff, Bool.not_eq_true', Bool.not_eq_false', decide_eq_true_eq, decide_eq_false_iff_not, Bool.not_true, Bool.not_false] at hc12
    refine l_atg hF ((wanted_of hF rfl rfl rfl rfl).trans (by rw [hb12]; rfl)) rfl rfl (x_move (hF.tmp 4 rfl)) ?_; clear hF; intro a hF
    refine l_atg hF ((wanted_of hF rfl rfl rfl rfl).trans (by rw [hb12]; rfl)) rfl rfl (x_idxS (xs := xs) Tryd.underlying9 (hF.tmp 13 rfl) rfl hb (by omega) (by omega)) ?_; clear hF; intro a hF
    refine l_atg hF ((wanted_of hF rfl rfl rfl rfl).trans (by rw [hb12]; rfl)) rfl rfl (x_eql (hF.tmp 14 rfl) rfl) ?_; clear hF; intro a hF
    refine l_at hF rfl rfl rfl (x_pickT (hF.tmp 12 rfl) hb12 (hF.tmp 15 rfl)) ?_; clear hF; intro a hF
    refine wpList_nil ?_
    refine hK4 _ _ ?_
    refine wp_cond_split (hF.tmp 16 rfl) (fun hc16 => ?_) (fun hc16 => ?_)
    · have hk16_1 := hc16; try simp only [Bool.or_eq_true, Bool.and_eq_true, Bool.or_eq_false_iff, Bool.and_eq_false_iff, Bool.not_eq_true', Bool.not_eq_false', decide_eq_true_eq, decide_eq_false_iff_not, Bool.not_true, Bool.not_false] at hc16
      have htof := tOf_yes (by omega) hc16
      refine wp_region_lit ?_
      refine l_at hF rfl rfl rfl (x_move (hF.tmp 4 rfl)) ?_; clear hF; intro a hF
      refine l_at hF rfl rfl rfl (x_sliceSl (xs := xs) Tryd.underlying9 (hF.tmp 17 rfl) rfl (by omega) (by omega)) ?_; clear hF; intro a hF
      refine l_at hF rfl rfl rfl (x_assign (hF.tmp 18 rfl)) ?_; clear hF; intro a hF
      refine wpList_nil ?_
      refine hK3 _ _ ?_
      refine wp_seq_k fun khK5 hK5 => ?_
      refine wp_seq_k fun khK6 hK6 => ?_
      refine wp_region_lit ?_
      have hF := FrD.add hF hF 4 (v := .string (strOfNums (tOf xs))) (by rw [htof]; rfl)
      refine l_at hF rfl rfl rfl (x_move (hF.tmp 4 rfl)) ?_; clear hF; intro a hF
      refine l_at hF rfl rfl rfl (x_len_sn (xs := (tOf xs)) Tryd.underlying9 (hF.tmp 19 rfl)) ?_; clear hF; intro a hF
      refine l_at hF rfl rfl rfl (x_lss (hF.tmp 20 rfl) rfl) ?_; clear hF; intro a hF
      refine l_at hF rfl rfl rfl (x_move (hF.tmp 21 rfl)) ?_; clear hF; intro a hF
      refine split_bool hF 22 rfl (fun hb22 => ?_) (fun hb22 => ?_)
      · have hc22 := hb22; try simp only [Bool.or_eq_true, Bool.and_eq_true, Bool.or_eq_false_iff, Bool.and_eq_false_iff, Bool.not_eq_true', Bool.not_eq_false', decide_eq_true_eq, decide_eq_false_iff_not, Bool.not_true, Bool.not_false] at hc22
        have hz := rnum_len hb (.inl (by omega))
        refine l_offg hF ((wanted_of hF rfl rfl rfl rfl).trans (by rw [hb22]; rfl)) rfl rfl ?_; clear hF; intro a hF
        refine l_offg hF ((wanted_of hF rfl rfl rfl rfl).trans (by rw [hb22]; rfl)) rfl rfl ?_; clear hF; intro a hF
        refine l_offg hF ((wanted_of hF rfl rfl rfl rfl).trans (by rw [hb22]; rfl)) rfl rfl ?_; clear hF; intro a hF
        refine l_at hF rfl rfl rfl (x_pickT (hF.tmp 22 rfl) hb22 rfl) ?_; clear hF; intro a hF
        refine wpList_nil ?_
        refine hK6 _ _ ?_
        refine wp_cond_true (hF.tmp 26 rfl) ?_
        refine wp_seq_k fun khK7 hK7 => ?_
        refine wp_region_lit ?_
        refine l_at hF rfl rfl rfl (x_assign rfl) ?_; clear hF; intro a hF
        refine l_at hF rfl rfl rfl (x_assign rfl) ?_; clear hF; intro a hF
        refine wpList_nil ?_
        refine hK7 _ _ ?_
        refine wp_ret ?_
        try simp only [Exit.then, Exit.inBlock]
        exact fin_ret hF (res2 hF rfl rfl rfl) ⟨0, by rw [hz] <;> rfl, hH.mods, by decide, fun u hu => by rw [hz] at hu; cases hu⟩
      · have hc22 := hb22; try simp only [Bool.or_eq_true, Bool.and_eq_true, Bool.or_eq_false_iff, Bool.and_eq_false_iff, Bool.not_eq_true', Bool.not_eq_false', decide_eq_true_eq, decide_eq_false_iff_not, Bool.not_true, Bool.not_false] at hc22
        refine l_atg hF ((wanted_of hF rfl rfl rfl rfl).trans (by rw [hb22]; rfl)) rfl rfl (x_move (hF.tmp 4 rfl)) ?_; clear hF; intro a hF
        refine l_atg hF ((wanted_of hF rfl rfl rfl rfl).trans (by rw [hb22]; rfl)) rfl rfl (x_len_sn (xs := (tOf xs)) Tryd.underlying9 (hF.tmp 23 rfl)) ?_; clear hF; intro a hF
        refine l_atg hF ((wanted_of hF rfl rfl rfl rfl).trans (by rw [hb22]; rfl)) rfl rfl (x_gtr (hF.tmp 24 rfl) rfl) ?_; clear hF; intro a hF
        refine l_at hF rfl rfl rfl (x_pickF (hF.tmp 22 rfl) hb22 (hF.tmp 25 rfl)) ?_; clear hF; intro a hF
        refine wpList_nil ?_
        refine hK6 _ _ ?_
        refine wp_cond_split (hF.tmp 26 rfl) (fun hc26 => ?_) (fun hc26 => ?_)
        · have hk26_2 := hc26; try simp only [Bool.or_eq_true, Bool.and_eq_true, Bool.or_eq_false_iff, Bool.and_eq_false_iff, Bool.not_eq_true', Bool.not_eq_false', decide_eq_true_eq, decide_eq_false_iff_not, Bool.not_true, Bool.not_false] at hc26
          have hz := rnum_len hb (.inr (by omega))
          refine wp_seq_k fun khK8 hK8 => ?_
          refine wp_region_lit ?_
          refine l_at hF rfl rfl rfl (x_assign rfl) ?_; clear hF; intro a hF
          refine l_at hF rfl rfl rfl (x_assign rfl) ?_; clear hF; intro a hF
          refine wpList_nil ?_
          refine hK8 _ _ ?_
          refine wp_ret ?_
          try simp only [Exit.then, Exit.inBlock]
          exact fin_ret hF (res2 hF rfl rfl rfl) ⟨0, by rw [hz] <;> rfl, hH.mods, by decide, fun u hu => by rw [hz] at hu; cases hu⟩
        · have hk26_3 := hc26; try simp only [Bool.or_eq_true, Bool.and_eq_true, Bool.or_eq_false_iff, Bool.and_eq_false_iff, Bool.not_eq_true', Bool.not_eq_false', decide_eq_true_eq, decide_eq_false_iff_not, Bool.not_true, Bool.not_false] at hc26
          refine wp_skip ?_
          refine hK5 _ _ ?_
          refine wp_seq_k fun khK9 hK9 => ?_
          refine wp_region_lit ?_
          refine l_at hF rfl rfl rfl (x_assign rfl) ?_; clear hF; intro a hF
          refine wpList_nil ?_
          refine hK9 _ _ ?_
          refine wp_seq_k fun khK10 hK10 => ?_
          refine wp_seq_k fun khK11 hK11 => ?_
          refine wp_region_lit ?_
          refine l_at hF rfl rfl rfl (x_assign rfl) ?_; clear hF; intro a hF
          refine wpList_nil ?_
          refine hK11 _ _ ?_
          refine wp_block ?_
          refine wp_loop_ghost (fun n_ a w => ∃ k : Nat, n_ = (tOf xs).length - k ∧ (k ≤ (tOf xs).length) ∧ (∀ j, j < k → 48 ≤ gi (tOf xs) (j : Int) ∧ gi (tOf xs) (j : Int) ≤ 57) ∧ Fr 65 a [(0, .string (strOfNums xs)), (4, .string (strOfNums (tOf xs))), (5, .int .u64 (valD ((tOf xs).take k))), (6, .int .i64 (k : Int))] ∧ Hp (fun _ => False) w0 w []) ((tOf xs).length) ?_ ?_
          · exact ⟨0, rfl, by omega, fun j hj => by omega, ((((hF.bare.add hF 6 rfl).add hF 5 rfl).add hF 4 rfl).add hF 0 rfl), hH.sub _ (sub_nil _)⟩
          · rintro _ a w ⟨k, rfl, hq0_0, hq0_1, hF, hH⟩
            refine wp_seq_k fun khK12 hK12 => ?_
            refine wp_seq_k fun khK13 hK13 => ?_
            refine wp_region_lit ?_
            refine l_at hF rfl rfl rfl (x_move (hF.tmp 6 rfl)) ?_; clear hF; intro a hF
            refine l_at hF rfl rfl rfl (x_move (hF.tmp 4 rfl)) ?_; clear hF; intro a hF
            refine l_at hF rfl rfl rfl (x_len_sn (xs := (tOf xs)) Tryd.underlying9 (hF.tmp 28 rfl)) ?_; clear hF; intro a hF
            refine l_at hF rfl rfl rfl (x_lss (hF.tmp 27 rfl) (hF.tmp 29 rfl)) ?_; clear hF; intro a hF
            refine wpList_nil ?_
            refine hK13 _ _ ?_
            refine wp_cond_split (hF.tmp 30 rfl) (fun hc30 => ?_) (fun hc30 => ?_)
            · have hk30_4 := hc30; try simp only [Bool.or_eq_true, Bool.and_eq_true, Bool.or_eq_false_iff, Bool.and_eq_false_iff, Bool.not_eq_true', Bool.not_eq_false', decide_eq_true_eq, decide_eq_false_iff_not, Bool.not_true, Bool.not_false] at hc30
              refine wp_skip ?_
              refine hK12 _ _ ?_
              refine wp_seq_k fun khK14 hK14 => ?_
              refine wp_block ?_
              refine wp_seq_k fun khK15 hK15 => ?_
              refine wp_seq_k fun khK16 hK16 => ?_
              refine wp_region_lit ?_
              refine l_at hF rfl rfl rfl (x_move (hF.tmp 4 rfl)) ?_; clear hF; intro a hF
              refine l_at hF rfl rfl rfl (x_move (hF.tmp 6 rfl)) ?_; clear hF; intro a hF
              refine l_at hF rfl rfl rfl (x_idxS (xs := (tOf xs)) Tryd.underlying9 (hF.tmp 33 rfl) (hF.tmp 34 rfl) (tOf_byte hb) (by omega) (by omega)) ?_; clear hF; intro a hF
              refine l_at hF rfl rfl rfl (x_lss (hF.tmp 35 rfl) rfl) ?_; clear hF; intro a hF
              refine l_at hF rfl rfl rfl (x_move (hF.tmp 36 rfl)) ?_; clear hF; intro a hF
              refine split_bool hF 37 rfl (fun hb37 => ?_) (fun hb37 => ?_)
              · have hc37 := hb37; try simp only [Bool.or_eq_true, Bool.and_eq_true, Bool.or_eq_false_iff, Bool.and_eq_false_iff, Bool.not_eq_true', Bool.not_eq_false', decide_eq_true_eq, decide_eq_false_iff_not, Bool.not_true, Bool.not_false] at hc37
                have hz := rnum_dig hb (k := k) (by omega) (.inl hc37)
                refine l_offg hF ((wanted_of hF rfl rfl rfl rfl).trans (by rw [hb37]; rfl)) rfl rfl ?_; clear hF; intro a hF
                refine l_offg hF ((wanted_of hF rfl rfl rfl rfl).trans (by rw [hb37]; rfl)) rfl rfl ?_; clear hF; intro a hF
                refine l_offg hF ((wanted_of hF rfl rfl rfl rfl).trans (by rw [hb37]; rfl)) rfl rfl ?_; clear hF; intro a hF
                refine l_offg hF ((wanted_of hF rfl rfl rfl rfl).trans (by rw [hb37]; rfl)) rfl rfl ?_; clear hF; intro a hF
                refine l_at hF rfl rfl rfl (x_pickT (hF.tmp 37 rfl) hb37 rfl) ?_; clear hF; intro a hF
                refine wpList_nil ?_
                refine hK16 _ _ ?_
                refine wp_cond_true (hF.tmp 42 rfl) ?_
                refine wp_seq_k fun khK17 hK17 => ?_
                refine wp_region_lit ?_
                refine l_at hF rfl rfl rfl (x_assign rfl) ?_; clear hF; intro a hF
                refine l_at hF rfl rfl rfl (x_assign rfl) ?_; clear hF; intro a hF
                refine wpList_nil ?_
                refine hK17 _ _ ?_
                refine wp_ret ?_
                try simp only [Exit.then, Exit.inBlock]
                exact fin_ret hF (res2 hF rfl rfl rfl) ⟨0, by rw [hz] <;> rfl, hH.mods, by decide, fun u hu => by rw [hz] at hu; cases hu⟩
              · have hc37 := hb37; try simp only [Bool.or_eq_true, Bool.and_eq_true, Bool.or_eq_false_iff, Bool.and_eq_false_iff, Bool.not_eq_true', Bool.not_eq_false', decide_eq_true_eq, decide_eq_false_iff_not, Bool.not_true, Bool.not_false] at hc37
                refine l_atg hF ((wanted_of hF rfl rfl rfl rfl).trans (by rw [hb37]; rfl)) rfl rfl (x_move (hF.tmp 4 rfl)) ?_; clear hF; intro a hF
                refine l_atg hF ((wanted_of hF rfl rfl rfl rfl).trans (by rw [hb37]; rfl)) rfl rfl (x_move (hF.tmp 6 rfl)) ?_; clear hF; intro a hF
                refine l_atg hF ((wanted_of hF rfl rfl rfl rfl).trans (by rw [hb37]; rfl)) rfl rfl (x_idxS (xs := (tOf xs)) Tryd.underlying9 (hF.tmp 38 rfl) (hF.tmp 39 rfl) (tOf_byte hb) (by omega) (by omega)) ?_; clear hF; intro a hF
                refine l_atg hF ((wanted_of hF rfl rfl rfl rfl).trans (by rw [hb37]; rfl)) rfl rfl (x_gtr (hF.tmp 40 rfl) rfl) ?_; clear hF; intro a hF
                refine l_at hF rfl rfl rfl (x_pickF (hF.tmp 37 rfl) hb37 (hF.tmp 41 rfl)) ?_; clear hF; intro a hF
                refine wpList_nil ?_
                refine hK16 _ _ ?_
                refine wp_cond_split (hF.tmp 42 rfl) (fun hc42 => ?_) (fun hc42 => ?_)
                · have hk42_5 := hc42; try simp only [Bool.or_eq_true, Bool.and_eq_true, Bool.or_eq_false_iff, Bool.and_eq_false_iff, Bool.not_eq_true', Bool.not_eq_false', decide_eq_true_eq, decide_eq_false_iff_not, Bool.not_true, Bool.not_false] at hc42
                  have hz := rnum_dig hb (k := k) (by omega) (.inr hc42)
                  refine wp_seq_k fun khK18 hK18 => ?_
                  refine wp_region_lit ?_
                  refine l_at hF rfl rfl rfl (x_assign rfl) ?_; clear hF; intro a hF
                  refine l_at hF rfl rfl rfl (x_assign rfl) ?_; clear hF; intro a hF
                  refine wpList_nil ?_
                  refine hK18 _ _ ?_
                  refine wp_ret ?_
                  try simp only [Exit.then, Exit.inBlock]
                  exact fin_ret hF (res2 hF rfl rfl rfl) ⟨0, by rw [hz] <;> rfl, hH.mods, by decide, fun u hu => by rw [hz] at hu; cases hu⟩
                · have hk42_6 := hc42; try simp only [Bool.or_eq_true, Bool.and_eq_true, Bool.or_eq_false_iff, Bool.and_eq_false_iff, Bool.not_eq_true', Bool.not_eq_false', decide_eq_true_eq, decide_eq_false_iff_not, Bool.not_true, Bool.not_false] at hc42
                  refine wp_skip ?_
                  refine hK15 _ _ ?_
                  refine wp_region_lit ?_
                  refine l_at hF rfl rfl rfl (x_move (hF.tmp 5 rfl)) ?_; clear hF; intro a hF
                  refine l_at hF rfl rfl rfl (x_mul rfl (hF.tmp 43 rfl) (wu64 (by have := hq0_1 ; have hvb := valD_bound (ds := tOf xs) (k := k) (by omega) hq0_1; have hp := pow19 (k := k) (by omega); omega) (by have := hq0_1 ; have hvb := valD_bound (ds := tOf xs) (k := k) (by omega) hq0_1; have hp := pow19 (k := k) (by omega); omega))) ?_; clear hF; intro a hF
                  refine l_at hF rfl rfl rfl (x_move (hF.tmp 4 rfl)) ?_; clear hF; intro a hF
                  refine l_at hF rfl rfl rfl (x_move (hF.tmp 6 rfl)) ?_; clear hF; intro a hF
                  refine l_at hF rfl rfl rfl (x_idxS (xs := (tOf xs)) Tryd.underlying9 (hF.tmp 45 rfl) (hF.tmp 46 rfl) (tOf_byte hb) (by omega) (by omega)) ?_; clear hF; intro a hF
                  refine l_at hF rfl rfl rfl (x_sub (hF.tmp 47 rfl) rfl (wu8 (by omega) (by omega))) ?_; clear hF; intro a hF
                  refine l_at hF rfl rfl rfl (x_conv Tryd.underlying101 ⟨_, Tryd.underlying5⟩ (hF.tmp 48 rfl) (wu64 (by omega) (by omega))) ?_; clear hF; intro a hF
                  refine l_at hF rfl rfl rfl (x_add (hF.tmp 44 rfl) (hF.tmp 49 rfl) (wu64 (by have := hq0_1 ; have hvb := valD_bound (ds := tOf xs) (k := k) (by omega) hq0_1; have hp := pow19 (k := k) (by omega); omega) (by have := hq0_1 ; have hvb := valD_bound (ds := tOf xs) (k := k) (by omega) hq0_1; have hp := pow19 (k := k) (by omega); omega))) ?_; clear hF; intro a hF
                  refine l_at hF rfl rfl rfl (x_assign (hF.tmp 50 rfl)) ?_; clear hF; intro a hF
                  refine wpList_nil ?_
                  refine hK14 _ _ ?_
                  refine wp_region_lit ?_
                  refine l_at hF rfl rfl rfl (x_move (hF.tmp 6 rfl)) ?_; clear hF; intro a hF
                  refine l_at hF rfl rfl rfl (x_add (hF.tmp 31 rfl) rfl (w64 (by omega) (by omega))) ?_; clear hF; intro a hF
                  refine l_at hF rfl rfl rfl (x_assign (hF.tmp 32 rfl)) ?_; clear hF; intro a hF
                  refine wpList_nil ?_
                  have hFs : Fr 65 a [(0, .string (strOfNums xs)), (4, .string (strOfNums (tOf xs))), (5, .int .u64 (10 * (valD ((tOf xs).take k)) + ((gi (tOf xs) (k : Int)) - 48))), (6, .int .i64 ((k : Int) + 1))] := ((((hF.bare.add hF 6 rfl).add hF 5 rfl).add hF 4 rfl).add hF 0 rfl)
                  rw [valD_step (by omega)] at hFs
                  exact ⟨_, by omega, ⟨k + 1, rfl, by omega, dig_step hq0_1 hc37 hc42, hFs, hH.sub _ (sub_nil _)⟩⟩
            · have hk30_7 := hc30; try simp only [Bool.or_eq_true, Bool.and_eq_true, Bool.or_eq_false_iff, Bool.and_eq_false_iff, Bool.not_eq_true', Bool.not_eq_false', decide_eq_true_eq, decide_eq_false_iff_not, Bool.not_true, Bool.not_false] at hc30
              obtain rfl : k = (tOf xs).length := by omega
              rw [List.take_length] at hF
              refine wp_exit ?_
              refine hK10 _ _ ?_
              refine wp_seq_k fun khK19 hK19 => ?_
              refine wp_seq_k fun khK20 hK20 => ?_
              refine wp_region_lit ?_
              refine l_at hF rfl rfl rfl (x_move (hF.tmp 5 rfl)) ?_; clear hF; intro a hF
              refine l_at hF rfl rfl rfl (x_gtr (hF.tmp 51 rfl) rfl) ?_; clear hF; intro a hF
              refine wpList_nil ?_
              refine hK20 _ _ ?_
              refine wp_cond_split (hF.tmp 52 rfl) (fun hc52 => ?_) (fun hc52 => ?_)
              · have hk52_8 := hc52; try simp only [Bool.or_eq_true, Bool.and_eq_true, Bool.or_eq_false_iff, Bool.and_eq_false_iff, Bool.not_eq_true', Bool.not_eq_false', decide_eq_true_eq, decide_eq_false_iff_not, Bool.not_true, Bool.not_false] at hc52
                have hz := rnum_big hb hc52
                refine wp_seq_k fun khK21 hK21 => ?_
                refine wp_region_lit ?_
                refine l_at hF rfl rfl rfl (x_assign rfl) ?_; clear hF; intro a hF
                refine l_at hF rfl rfl rfl (x_assign rfl) ?_; clear hF; intro a hF
                refine wpList_nil ?_
                refine hK21 _ _ ?_
                refine wp_ret ?_
                try simp only [Exit.then, Exit.inBlock]
                exact fin_ret hF (res2 hF rfl rfl rfl) ⟨0, by rw [hz] <;> rfl, hH.mods, by decide, fun u hu => by rw [hz] at hu; cases hu⟩
              · have hk52_9 := hc52; try simp only [Bool.or_eq_true, Bool.and_eq_true, Bool.or_eq_false_iff, Bool.and_eq_false_iff, Bool.not_eq_true', Bool.not_eq_false', decide_eq_true_eq, decide_eq_false_iff_not, Bool.not_true, Bool.not_false] at hc52
                refine wp_skip ?_
                refine hK19 _ _ ?_
                refine wp_seq_k fun khK22 hK22 => ?_
                refine wp_region_lit ?_
                refine l_at hF rfl rfl rfl (x_move (hF.tmp 5 rfl)) ?_; clear hF; intro a hF
                refine l_at hF rfl rfl rfl (x_conv Tryd.underlying2 ⟨_, Tryd.underlying101⟩ (hF.tmp 53 rfl) rfl) ?_; clear hF; intro a hF
                refine l_at hF rfl rfl rfl (x_assign (hF.tmp 54 rfl)) ?_; clear hF; intro a hF
                refine wpList_nil ?_
                refine hK22 _ _ ?_
                refine wp_seq_k fun khK23 hK23 => ?_
                refine wp_seq_k fun khK24 hK24 => ?_
                refine wp_region_lit ?_
                refine l_at hF rfl rfl rfl (x_move (hF.tmp 4 rfl)) ?_; clear hF; intro a hF
                refine l_at hF rfl rfl rfl (x_move (hF.tmp 0 rfl)) ?_; clear hF; intro a hF
                refine l_at hF rfl rfl rfl (x_nen (xs := (tOf xs)) (ys := xs) (hF.tmp 55 rfl) (hF.tmp 56 rfl) (tOf_byte hb) hb) ?_; clear hF; intro a hF
                refine wpList_nil ?_
                refine hK24 _ _ ?_
                refine wp_cond_split (hF.tmp 57 rfl) (fun hc57 => ?_) (fun hc57 => ?_)
                · have hk57_10 := hc57; try simp only [Bool.or_eq_true, Bool.and_eq_true, Bool.or_eq_false_iff, Bool.and_eq_false_iff, Bool.not_eq_true', Bool.not_eq_false', decide_eq_true_eq, decide_eq_false_iff_not, Bool.not_true, Bool.not_false] at hc57
                  have hxof := xOf_neg hc57
                  refine wp_region_lit ?_
                  refine l_at hF rfl rfl rfl (x_move (hF.tmp 7 rfl)) ?_; clear hF; intro a hF
                  refine l_at hF rfl rfl rfl (x_neg (hF.tmp 58 rfl) rfl) ?_; clear hF; intro a hF
                  refine l_at hF rfl rfl rfl (x_assign (hF.tmp 59 rfl)) ?_; clear hF; intro a hF
                  refine wpList_nil ?_
                  refine hK23 _ _ ?_
                  refine wp_seq_k fun khK25 hK25 => ?_
                  refine wp_region_lit ?_
                  have hF := FrD.add hF hF 7 (v := .int .i64 (xOf xs)) (by rw [hxof]; rfl)
                  refine l_at hF rfl rfl rfl (x_move (hF.tmp 7 rfl)) ?_; clear hF; intro a hF
                  refine l_at hF rfl rfl rfl (x_move (hF.tmp 7 rfl)) ?_; clear hF; intro a hF
                  refine wpList_plain rfl fun K hK => ?_
                  refine w_call hF (x_enter Tryd.func9 (by kernel_rfl) rfl (by simp only [List.map_toArray, List.map_cons, List.map_nil, hF.tmp 61 rfl] <;> rfl)) (text_calls _ (rnum_fin hb).2.2) rfl rfl ?_
                  rintro _ w ⟨rfl, hm_⟩; refine ⟨_, rfl, ?_⟩; clear hF; intro a hF; have hH := hH.same hm_
                  refine hK _ _ ?_; clear hK K
                  refine l_at hF rfl rfl rfl (x_move (hF.tmp 0 rfl)) ?_; clear hF; intro a hF
                  refine l_at hF rfl rfl rfl (x_eqn (xs := (itoaI (xOf xs))) (ys := xs) (hF.tmp 62 rfl) (hF.tmp 63 rfl) (itoaI_byte _) hb) ?_; clear hF; intro a hF
                  refine l_at hF rfl rfl rfl (x_assign (hF.tmp 60 rfl)) ?_; clear hF; intro a hF
                  refine l_at hF rfl rfl rfl (x_assign (hF.tmp 64 rfl)) ?_; clear hF; intro a hF
                  refine wpList_nil ?_
                  refine hK25 _ _ ?_
                  refine wp_ret ?_
                  try simp only [Exit.then, Exit.inBlock]
                  have hz := rnum_fin hb
                  exact fin_ret hF (res2 hF rfl rfl rfl) ⟨xOf xs, by rw [hz.1] <;> rfl, hH.mods, hz.2.2, hz.2.1⟩
                · have hk57_11 := hc57; try simp only [Bool.or_eq_true, Bool.and_eq_true, Bool.or_eq_false_iff, Bool.and_eq_false_iff, Bool.not_eq_true', Bool.not_eq_false', decide_eq_true_eq, decide_eq_false_iff_not, Bool.not_true, Bool.not_false] at hc57
                  have hxof := xOf_pos hc57
                  refine wp_skip ?_
                  refine hK23 _ _ ?_
                  refine wp_seq_k fun khK26 hK26 => ?_
                  refine wp_region_lit ?_
                  have hF := FrD.add hF hF 7 (v := .int .i64 (xOf xs)) (by rw [hxof]; rfl)
                  refine l_at hF rfl rfl rfl (x_move (hF.tmp 7 rfl)) ?_; clear hF; intro a hF
                  refine l_at hF rfl rfl rfl (x_move (hF.tmp 7 rfl)) ?_; clear hF; intro a hF
                  refine wpList_plain rfl fun K hK => ?_
                  refine w_call hF (x_enter Tryd.func9 (by kernel_rfl) rfl (by simp only [List.map_toArray, List.map_cons, List.map_nil, hF.tmp 61 rfl] <;> rfl)) (text_calls _ (rnum_fin hb).2.2) rfl rfl ?_
                  rintro _ w ⟨rfl, hm_⟩; refine ⟨_, rfl, ?_⟩; clear hF; intro a hF; have hH := hH.same hm_
                  refine hK _ _ ?_; clear hK K
                  refine l_at hF rfl rfl rfl (x_move (hF.tmp 0 rfl)) ?_; clear hF; intro a hF
                  refine l_at hF rfl rfl rfl (x_eqn (xs := (itoaI (xOf xs))) (ys := xs) (hF.tmp 62 rfl) (hF.tmp 63 rfl) (itoaI_byte _) hb) ?_; clear hF; intro a hF
                  refine l_at hF rfl rfl rfl (x_assign (hF.tmp 60 rfl)) ?_; clear hF; intro a hF
                  refine l_at hF rfl rfl rfl (x_assign (hF.tmp 64 rfl)) ?_; clear hF; intro a hF
                  refine wpList_nil ?_
                  refine hK26 _ _ ?_
                  refine wp_ret ?_
                  try simp only [Exit.then, Exit.inBlock]
                  have hz := rnum_fin hb
                  exact fin_ret hF (res2 hF rfl rfl rfl) ⟨xOf xs, by rw [hz.1] <;> rfl, hH.mods, hz.2.2, hz.2.1⟩
    · have hk16_12 := hc16; try simp only [Bool.or_eq_true, Bool.and_eq_true, Bool.or_eq_false_iff, Bool.and_eq_false_iff, Bool.not_eq_true', Bool.not_eq_false', decide_eq_true_eq, decide_eq_false_iff_not, Bool.not_true, Bool.not_false] at hc16
      have htof := tOf_no hc16
      refine wp_skip ?_
      refine hK3 _ _ ?_
      refine wp_seq_k fun khK27 hK27 => ?_
      refine wp_seq_k fun khK28 hK28 => ?_
      refine wp_region_lit ?_
      have hF := FrD.add hF hF 4 (v := .string (strOfNums (tOf xs))) (by rw [htof]; rfl)
      refine l_at hF rfl rfl rfl (x_move (hF.tmp 4 rfl)) ?_; clear hF; intro a hF
      refine l_at hF rfl rfl rfl (x_len_sn (xs := (tOf xs)) Tryd.underlying9 (hF.tmp 19 rfl)) ?_; clear hF; intro a hF
      refine l_at hF rfl rfl rfl (x_lss (hF.tmp 20 rfl) rfl) ?_; clear hF; intro a hF
      refine l_at hF rfl rfl rfl (x_move (hF.tmp 21 rfl)) ?_; clear hF; intro a hF
      refine split_bool hF 22 rfl (fun hb22 => ?_) (fun hb22 => ?_)
      · have hc22 := hb22; try simp only [Bool.or_eq_true, Bool.and_eq_true, Bool.or_eq_false_iff, Bool.and_eq_false_iff, Bool.not_eq_true', Bool.not_eq_false', decide_eq_true_eq, decide_eq_false_iff_not, Bool.not_true, Bool.not_false] at hc22
        have hz := rnum_len hb (.inl (by omega))
        refine l_offg hF ((wanted_of hF rfl rfl rfl rfl).trans (by rw [hb22]; rfl)) rfl rfl ?_; clear hF; intro a hF
        refine l_offg hF ((wanted_of hF rfl rfl rfl rfl).trans (by rw [hb22]; rfl)) rfl rfl ?_; clear hF; intro a hF
        refine l_offg hF ((wanted_of hF rfl rfl rfl rfl).trans (by rw [hb22]; rfl)) rfl rfl ?_; clear hF; intro a hF
        refine l_at hF rfl rfl rfl (x_pickT (hF.tmp 22 rfl) hb22 rfl) ?_; clear hF; intro a hF
        refine wpList_nil ?_
        refine hK28 _ _ ?_
        refine wp_cond_true (hF.tmp 26 rfl) ?_
        refine wp_seq_k fun khK29 hK29 => ?_
        refine wp_region_lit ?_
        refine l_at hF rfl rfl rfl (x_assign rfl) ?_; clear hF; intro a hF
        refine l_at hF rfl rfl rfl (x_assign rfl) ?_; clear hF; intro a hF
        refine wpList_nil ?_
        refine hK29 _ _ ?_
        refine wp_ret ?_
        try simp only [Exit.then, Exit.inBlock]
        exact fin_ret hF (res2 hF rfl rfl rfl) ⟨0, by rw [hz] <;> rfl, hH.mods, by decide, fun u hu => by rw [hz] at hu; cases hu⟩
      · have hc22 := hb22; try simp only [Bool.or_eq_true, Bool.and_eq_true, Bool.or_eq_false_iff, Bool.and_eq_false_iff, Bool.not_eq_true', Bool.not_eq_false', decide_eq_true_eq, decide_eq_false_iff_not, Bool.not_true, Bool.not_false] at hc22
        refine l_atg hF ((wanted_of hF rfl rfl rfl rfl).trans (by rw [hb22]; rfl)) rfl rfl (x_move (hF.tmp 4 rfl)) ?_; clear hF; intro a hF
        refine l_atg hF ((wanted_of hF rfl rfl rfl rfl).trans (by rw [hb22]; rfl)) rfl rfl (x_len_sn (xs := (tOf xs)) Tryd.underlying9 (hF.tmp 23 rfl)) ?_; clear hF; intro a hF
        refine l_atg hF ((wanted_of hF rfl rfl rfl rfl).trans (by rw [hb22]; rfl)) rfl rfl (x_gtr (hF.tmp 24 rfl) rfl) ?_; clear hF; intro a hF
        refine l_at hF rfl rfl rfl (x_pickF (hF.tmp 22 rfl) hb22 (hF.tmp 25 rfl)) ?_; clear hF; intro a hF
        refine wpList_nil ?_
        refine hK28 _ _ ?_
        refine wp_cond_split (hF.tmp 26 rfl) (fun hc26 => ?_) (fun hc26 => ?_)
        · have hk26_13 := hc26; try simp only [Bool.or_eq_true, Bool.and_eq_true, Bool.or_eq_false_iff, Bool.and_eq_false_iff, Bool.not_eq_true', Bool.not_eq_false', decide_eq_true_eq, decide_eq_false_iff_not, Bool.not_true, Bool.not_false] at hc26
          have hz := rnum_len hb (.inr (by omega))
          refine wp_seq_k fun khK30 hK30 => ?_
          refine wp_region_lit ?_
          refine l_at hF rfl rfl rfl (x_assign rfl) ?_; clear hF; intro a hF
          refine l_at hF rfl rfl rfl (x_assign rfl) ?_; clear hF; intro a hF
          refine wpList_nil ?_
          refine hK30 _ _ ?_
          refine wp_ret ?_
          try simp only [Exit.then, Exit.inBlock]
          exact fin_ret hF (res2 hF rfl rfl rfl) ⟨0, by rw [hz] <;> rfl, hH.mods, by decide, fun u hu => by rw [hz] at hu; cases hu⟩
        · have hk26_14 := hc26; try simp only [Bool.or_eq_true, Bool.and_eq_true, Bool.or_eq_false_iff, Bool.and_eq_false_iff, Bool.not_eq_true', Bool.not_eq_false', decide_eq_true_eq, decide_eq_false_iff_not, Bool.not_true, Bool.not_false] at hc26
          refine wp_skip ?_
          refine hK27 _ _ ?_
          refine wp_seq_k fun khK31 hK31 => ?_
          refine wp_region_lit ?_
          refine l_at hF rfl rfl rfl (x_assign rfl) ?_; clear hF; intro a hF
          refine wpList_nil ?_
          refine hK31 _ _ ?_
          refine wp_seq_k fun khK32 hK32 => ?_
          refine wp_seq_k fun khK33 hK33 => ?_
          refine wp_region_lit ?_
          refine l_at hF rfl rfl rfl (x_assign rfl) ?_; clear hF; intro a hF
          refine wpList_nil ?_
          refine hK33 _ _ ?_
          refine wp_block ?_
          refine wp_loop_ghost (fun n_ a w => ∃ k : Nat, n_ = (tOf xs).length - k ∧ (k ≤ (tOf xs).length) ∧ (∀ j, j < k → 48 ≤ gi (tOf xs) (j : Int) ∧ gi (tOf xs) (j : Int) ≤ 57) ∧ Fr 65 a [(0, .string (strOfNums xs)), (4, .string (strOfNums (tOf xs))), (5, .int .u64 (valD ((tOf xs).take k))), (6, .int .i64 (k : Int))] ∧ Hp (fun _ => False) w0 w []) ((tOf xs).length) ?_ ?_
          · exact ⟨0, rfl, by omega, fun j hj => by omega, ((((hF.bare.add hF 6 rfl).add hF 5 rfl).add hF 4 rfl).add hF 0 rfl), hH.sub _ (sub_nil _)⟩
          · rintro _ a w ⟨k, rfl, hq0_0, hq0_1, hF, hH⟩
            refine wp_seq_k fun khK34 hK34 => ?_
            refine wp_seq_k fun khK35 hK35 => ?_
            refine wp_region_lit ?_
            refine l_at hF rfl rfl rfl (x_move (hF.tmp 6 rfl)) ?_; clear hF; intro a hF
            refine l_at hF rfl rfl rfl (x_move (hF.tmp 4 rfl)) ?_; clear hF; intro a hF
            refine l_at hF rfl rfl rfl (x_len_sn (xs := (tOf xs)) Tryd.underlying9 (hF.tmp 28 rfl)) ?_; clear hF; intro a hF
            refine l_at hF rfl rfl rfl (x_lss (hF.tmp 27 rfl) (hF.tmp 29 rfl)) ?_; clear hF; intro a hF
            refine wpList_nil ?_
            refine hK35 _ _ ?_
            refine wp_cond_split (hF.tmp 30 rfl) (fun hc30 => ?_) (fun hc30 => ?_)
            · have hk30_15 := hc30; try simp only [Bool.or_eq_true, Bool.and_eq_true, Bool.or_eq_false_iff, Bool.and_eq_false_iff, Bool.not_eq_true', Bool.not_eq_false', decide_eq_true_eq, decide_eq_false_iff_not, Bool.not_true, Bool.not_false] at hc30
              refine wp_skip ?_
              refine hK34 _ _ ?_
              refine wp_seq_k fun khK36 hK36 => ?_
              refine wp_block ?_
              refine wp_seq_k fun khK37 hK37 => ?_
              refine wp_seq_k fun khK38 hK38 => ?_
              refine wp_region_lit ?_
              refine l_at hF rfl rfl rfl (x_move (hF.tmp 4 rfl)) ?_; clear hF; intro a hF
              refine l_at hF rfl rfl rfl (x_move (hF.tmp 6 rfl)) ?_; clear hF; intro a hF
              refine l_at hF rfl rfl rfl (x_idxS (xs := (tOf xs)) Tryd.underlying9 (hF.tmp 33 rfl) (hF.tmp 34 rfl) (tOf_byte hb) (by omega) (by omega)) ?_; clear hF; intro a hF
              refine l_at hF rfl rfl rfl (x_lss (hF.tmp 35 rfl) rfl) ?_; clear hF; intro a hF
              refine l_at hF rfl rfl rfl (x_move (hF.tmp 36 rfl)) ?_; clear hF; intro a hF
              refine split_bool hF 37 rfl (fun hb37 => ?_) (fun hb37 => ?_)
              · have hc37 := hb37; try simp only [Bool.or_eq_true, Bool.and_eq_true, Bool.or_eq_false_iff, Bool.and_eq_false_iff, Bool.not_eq_true', Bool.not_eq_false', decide_eq_true_eq, decide_eq_false_iff_not, Bool.not_true, Bool.not_false] at hc37
                have hz := rnum_dig hb (k := k) (by omega) (.inl hc37)
                refine l_offg hF ((wanted_of hF rfl rfl rfl rfl).trans (by rw [hb37]; rfl)) rfl rfl ?_; clear hF; intro a hF
                refine l_offg hF ((wanted_of hF rfl rfl rfl rfl).trans (by rw [hb37]; rfl)) rfl rfl ?_; clear hF; intro a hF
                refine l_offg hF ((wanted_of hF rfl rfl rfl rfl).trans (by rw [hb37]; rfl)) rfl rfl ?_; clear hF; intro a hF
                refine l_offg hF ((wanted_of hF rfl rfl rfl rfl).trans (by rw [hb37]; rfl)) rfl rfl ?_; clear hF; intro a hF
                refine l_at hF rfl rfl rfl (x_pickT (hF.tmp 37 rfl) hb37 rfl) ?_; clear hF; intro a hF
                refine wpList_nil ?_
                refine hK38 _ _ ?_
                refine wp_cond_true (hF.tmp 42 rfl) ?_
                refine wp_seq_k fun khK39 hK39 => ?_
                refine wp_region_lit ?_
                refine l_at hF rfl rfl rfl (x_assign rfl) ?_; clear hF; intro a hF
                refine l_at hF rfl rfl rfl (x_assign rfl) ?_; clear hF; intro a hF
                refine wpList_nil ?_
                refine hK39 _ _ ?_
                refine wp_ret ?_
                try simp only [Exit.then, Exit.inBlock]
                exact fin_ret hF (res2 hF rfl rfl rfl) ⟨0, by rw [hz] <;> rfl, hH.mods, by decide, fun u hu => by rw [hz] at hu; cases hu⟩
              · have hc37 := hb37; try simp only [Bool.or_eq_true, Bool.and_eq_true, Bool.or_eq_false_iff, Bool.and_eq_false_iff, Bool.not_eq_true', Bool.not_eq_false', decide_eq_true_eq, decide_eq_false_iff_not, Bool.not_true, Bool.not_false] at hc37
                refine l_atg hF ((wanted_of hF rfl rfl rfl rfl).trans (by rw [hb37]; rfl)) rfl rfl (x_move (hF.tmp 4 rfl)) ?_; clear hF; intro a hF
                refine l_atg hF ((wanted_of hF rfl rfl rfl rfl).trans (by rw [hb37]; rfl)) rfl rfl (x_move (hF.tmp 6 rfl)) ?_; clear hF; intro a hF
                refine l_atg hF ((wanted_of hF rfl rfl rfl rfl).trans (by rw [hb37]; rfl)) rfl rfl (x_idxS (xs := (tOf xs)) Tryd.underlying9 (hF.tmp 38 rfl) (hF.tmp 39 rfl) (tOf_byte hb) (by omega) (by omega)) ?_; clear hF; intro a hF
                refine l_atg hF ((wanted_of hF rfl rfl rfl rfl).trans (by rw [hb37]; rfl)) rfl rfl (x_gtr (hF.tmp 40 rfl) rfl) ?_; clear hF; intro a hF
                refine l_at hF rfl rfl rfl (x_pickF (hF.tmp 37 rfl) hb37 (hF.tmp 41 rfl)) ?_; clear hF; intro a hF
                refine wpList_nil ?_
                refine hK38 _ _ ?_
                refine wp_cond_split (hF.tmp 42 rfl) (fun hc42 => ?_) (fun hc42 => ?_)
                · have hk42_16 := hc42; try simp only [Bool.or_eq_true, Bool.and_eq_true, Bool.or_eq_false_iff, Bool.and_eq_false_iff, Bool.not_eq_true', Bool.not_eq_false', decide_eq_true_eq, decide_eq_false_iff_not, Bool.not_true, Bool.not_false] at hc42
                  have hz := rnum_dig hb (k := k) (by omega) (.inr hc42)
                  refine wp_seq_k fun khK40 hK40 => ?_
                  refine wp_region_lit ?_
                  refine l_at hF rfl rfl rfl (x_assign rfl) ?_; clear hF; intro a hF
                  refine l_at hF rfl rfl rfl (x_assign rfl) ?_; clear hF; intro a hF
                  refine wpList_nil ?_
                  refine hK40 _ _ ?_
                  refine wp_ret ?_
                  try simp only [Exit.then, Exit.inBlock]
                  exact fin_ret hF (res2 hF rfl rfl rfl) ⟨0, by rw [hz] <;> rfl, hH.mods, by decide, fun u hu => by rw [hz] at hu; cases hu⟩
                · have hk42_17 := hc42; try simp only [Bool.or_eq_true, Bool.and_eq_true, Bool.or_eq_false_iff, Bool.and_eq_false_iff, Bool.not_eq_true', Bool.not_eq_false', decide_eq_true_eq, decide_eq_false_iff_not, Bool.not_true, Bool.not_false] at hc42
                  refine wp_skip ?_
                  refine hK37 _ _ ?_
                  refine wp_region_lit ?_
                  refine l_at hF rfl rfl rfl (x_move (hF.tmp 5 rfl)) ?_; clear hF; intro a hF
                  refine l_at hF rfl rfl rfl (x_mul rfl (hF.tmp 43 rfl) (wu64 (by have := hq0_1 ; have hvb := valD_bound (ds := tOf xs) (k := k) (by omega) hq0_1; have hp := pow19 (k := k) (by omega); omega) (by have := hq0_1 ; have hvb := valD_bound (ds := tOf xs) (k := k) (by omega) hq0_1; have hp := pow19 (k := k) (by omega); omega))) ?_; clear hF; intro a hF
                  refine l_at hF rfl rfl rfl (x_move (hF.tmp 4 rfl)) ?_; clear hF; intro a hF
                  refine l_at hF rfl rfl rfl (x_move (hF.tmp 6 rfl)) ?_; clear hF; intro a hF
                  refine l_at hF rfl rfl rfl (x_idxS (xs := (tOf xs)) Tryd.underlying9 (hF.tmp 45 rfl) (hF.tmp 46 rfl) (tOf_byte hb) (by omega) (by omega)) ?_; clear hF; intro a hF
                  refine l_at hF rfl rfl rfl (x_sub (hF.tmp 47 rfl) rfl (wu8 (by omega) (by omega))) ?_; clear hF; intro a hF
                  refine l_at hF rfl rfl rfl (x_conv Tryd.underlying101 ⟨_, Tryd.underlying5⟩ (hF.tmp 48 rfl) (wu64 (by omega) (by omega))) ?_; clear hF; intro a hF
                  refine l_at hF rfl rfl rfl (x_add (hF.tmp 44 rfl) (hF.tmp 49 rfl) (wu64 (by have := hq0_1 ; have hvb := valD_bound (ds := tOf xs) (k := k) (by omega) hq0_1; have hp := pow19 (k := k) (by omega); omega) (by have := hq0_1 ; have hvb := valD_bound (ds := tOf xs) (k := k) (by omega) hq0_1; have hp := pow19 (k := k) (by omega); omega))) ?_; clear hF; intro a hF
                  refine l_at hF rfl rfl rfl (x_assign (hF.tmp 50 rfl)) ?_; clear hF; intro a hF
                  refine wpList_nil ?_
                  refine hK36 _ _ ?_
                  refine wp_region_lit ?_
                  refine l_at hF rfl rfl rfl (x_move (hF.tmp 6 rfl)) ?_; clear hF; intro a hF
                  refine l_at hF rfl rfl rfl (x_add (hF.tmp 31 rfl) rfl (w64 (by omega) (by omega))) ?_; clear hF; intro a hF
                  refine l_at hF rfl rfl rfl (x_assign (hF.tmp 32 rfl)) ?_; clear hF; intro a hF
                  refine wpList_nil ?_
                  have hFs : Fr 65 a [(0, .string (strOfNums xs)), (4, .string (strOfNums (tOf xs))), (5, .int .u64 (10 * (valD ((tOf xs).take k)) + ((gi (tOf xs) (k : Int)) - 48))), (6, .int .i64 ((k : Int) + 1))] := ((((hF.bare.add hF 6 rfl).add hF 5 rfl).add hF 4 rfl).add hF 0 rfl)
                  rw [valD_step (by omega)] at hFs
                  exact ⟨_, by omega, ⟨k + 1, rfl, by omega, dig_step hq0_1 hc37 hc42, hFs, hH.sub _ (sub_nil _)⟩⟩
            · have hk30_18 := hc30; try simp only [Bool.or_eq_true, Bool.and_eq_true, Bool.or_eq_false_iff, Bool.and_eq_false_iff, Bool.not_eq_true', Bool.not_eq_false', decide_eq_true_eq, decide_eq_false_iff_not, Bool.not_true, Bool.not_false] at hc30
              obtain rfl : k = (tOf xs).length := by omega
              rw [List.take_length] at hF
              refine wp_exit ?_
              refine hK32 _ _ ?_
              refine wp_seq_k fun khK41 hK41 => ?_
              refine wp_seq_k fun khK42 hK42 => ?_
              refine wp_region_lit ?_
              refine l_at hF rfl rfl rfl (x_move (hF.tmp 5 rfl)) ?_; clear hF; intro a hF
              refine l_at hF rfl rfl rfl (x_gtr (hF.tmp 51 rfl) rfl) ?_; clear hF; intro a hF
              refine wpList_nil ?_
              refine hK42 _ _ ?_
              refine wp_cond_split (hF.tmp 52 rfl) (fun hc52 => ?_) (fun hc52 => ?_)
              · have hk52_19 := hc52; try simp only [Bool.or_eq_true, Bool.and_eq_true, Bool.or_eq_false_iff, Bool.and_eq_false_iff, Bool.not_eq_true', Bool.not_eq_false', decide_eq_true_eq, decide_eq_false_iff_not, Bool.not_true, Bool.not_false] at hc52
                have hz := rnum_big hb hc52
                refine wp_seq_k fun khK43 hK43 => ?_
                refine wp_region_lit ?_
                refine l_at hF rfl rfl rfl (x_assign rfl) ?_; clear hF; intro a hF
                refine l_at hF rfl rfl rfl (x_assign rfl) ?_; clear hF; intro a hF
                refine wpList_nil ?_
                refine hK43 _ _ ?_
                refine wp_ret ?_
                try simp only [Exit.then, Exit.inBlock]
                exact fin_ret hF (res2 hF rfl rfl rfl) ⟨0, by rw [hz] <;> rfl, hH.mods, by decide, fun u hu => by rw [hz] at hu; cases hu⟩
              · have hk52_20 := hc52; try simp only [Bool.or_eq_true, Bool.and_eq_true, Bool.or_eq_false_iff, Bool.and_eq_false_iff, Bool.not_eq_true', Bool.not_eq_false', decide_eq_true_eq, decide_eq_false_iff_not, Bool.not_true, Bool.not_false] at hc52
                refine wp_skip ?_
                refine hK41 _ _ ?_
                refine wp_seq_k fun khK44 hK44 => ?_
                refine wp_region_lit ?_
                refine l_at hF rfl rfl rfl (x_move (hF.tmp 5 rfl)) ?_; clear hF; intro a hF
                refine l_at hF rfl rfl rfl (x_conv Tryd.underlying2 ⟨_, Tryd.underlying101⟩ (hF.tmp 53 rfl) rfl) ?_; clear hF; intro a hF
                refine l_at hF rfl rfl rfl (x_assign (hF.tmp 54 rfl)) ?_; clear hF; intro a hF
                refine wpList_nil ?_
                refine hK44 _ _ ?_
                refine wp_seq_k fun khK45 hK45 => ?_
                refine wp_seq_k fun khK46 hK46 => ?_
                refine wp_region_lit ?_
                refine l_at hF rfl rfl rfl (x_move (hF.tmp 4 rfl)) ?_; clear hF; intro a hF
                refine l_at hF rfl rfl rfl (x_move (hF.tmp 0 rfl)) ?_; clear hF; intro a hF
                refine l_at hF rfl rfl rfl (x_nen (xs := (tOf xs)) (ys := xs) (hF.tmp 55 rfl) (hF.tmp 56 rfl) (tOf_byte hb) hb) ?_; clear hF; intro a hF
                refine wpList_nil ?_
                refine hK46 _ _ ?_
                refine wp_cond_split (hF.tmp 57 rfl) (fun hc57 => ?_) (fun hc57 => ?_)
                · have hk57_21 := hc57; try simp only [Bool.or_eq_true, Bool.and_eq_true, Bool.or_eq_false_iff, Bool.and_eq_false_iff, Bool.not_eq_true', Bool.not_eq_false', decide_eq_true_eq, decide_eq_false_iff_not, Bool.not_true, Bool.not_false] at hc57
                  have hxof := xOf_neg hc57
                  refine wp_region_lit ?_
                  refine l_at hF rfl rfl rfl (x_move (hF.tmp 7 rfl)) ?_; clear hF; intro a hF
                  refine l_at hF rfl rfl rfl (x_neg (hF.tmp 58 rfl) rfl) ?_; clear hF; intro a hF
                  refine l_at hF rfl rfl rfl (x_assign (hF.tmp 59 rfl)) ?_; clear hF; intro a hF
                  refine wpList_nil ?_
                  refine hK45 _ _ ?_
                  refine wp_seq_k fun khK47 hK47 => ?_
                  refine wp_region_lit ?_
                  have hF := FrD.add hF hF 7 (v := .int .i64 (xOf xs)) (by rw [hxof]; rfl)
                  refine l_at hF rfl rfl rfl (x_move (hF.tmp 7 rfl)) ?_; clear hF; intro a hF
                  refine l_at hF rfl rfl rfl (x_move (hF.tmp 7 rfl)) ?_; clear hF; intro a hF
                  refine wpList_plain rfl fun K hK => ?_
                  refine w_call hF (x_enter Tryd.func9 (by kernel_rfl) rfl (by simp only [List.map_toArray, List.map_cons, List.map_nil, hF.tmp 61 rfl] <;> rfl)) (text_calls _ (rnum_fin hb).2.2) rfl rfl ?_
                  rintro _ w ⟨rfl, hm_⟩; refine ⟨_, rfl, ?_⟩; clear hF; intro a hF; have hH := hH.same hm_
                  refine hK _ _ ?_; clear hK K
                  refine l_at hF rfl rfl rfl (x_move (hF.tmp 0 rfl)) ?_; clear hF; intro a hF
                  refine l_at hF rfl rfl rfl (x_eqn (xs := (itoaI (xOf xs))) (ys := xs) (hF.tmp 62 rfl) (hF.tmp 63 rfl) (itoaI_byte _) hb) ?_; clear hF; intro a hF
                  refine l_at hF rfl rfl rfl (x_assign (hF.tmp 60 rfl)) ?_; clear hF; intro a hF
                  refine l_at hF rfl rfl rfl (x_assign (hF.tmp 64 rfl)) ?_; clear hF; intro a hF
                  refine wpList_nil ?_
                  refine hK47 _ _ ?_
                  refine wp_ret ?_
                  try simp only [Exit.then, Exit.inBlock]
                  have hz := rnum_fin hb
                  exact fin_ret hF (res2 hF rfl rfl rfl) ⟨xOf xs, by rw [hz.1] <;> rfl, hH.mods, hz.2.2, hz.2.1⟩
                · have hk57_22 := hc57; try simp only [Bool.or_eq_true, Bool.and_eq_true, Bool.or_eq_false_iff, Bool.and_eq_false_iff, Bool.not_eq_true', Bool.not_eq_false', decide_eq_true_eq, decide_eq_false_iff_not, Bool.not_true, Bool.not_false] at hc57
                  have hxof := xOf_pos hc57
                  refine wp_skip ?_
                  refine hK45 _ _ ?_
                  refine wp_seq_k fun khK48 hK48 => ?_
                  refine wp_region_lit ?_
                  have hF := FrD.add hF hF 7 (v := .int .i64 (xOf xs)) (by rw [hxof]; rfl)
                  refine l_at hF rfl rfl rfl (x_move (hF.tmp 7 rfl)) ?_; clear hF; intro a hF
                  refine l_at hF rfl rfl rfl (x_move (hF.tmp 7 rfl)) ?_; clear hF; intro a hF
                  refine wpList_plain rfl fun K hK => ?_
                  refine w_call hF (x_enter Tryd.func9 (by kernel_rfl) rfl (by simp only [List.map_toArray, List.map_cons, List.map_nil, hF.tmp 61 rfl] <;> rfl)) (text_calls _ (rnum_fin hb).2.2) rfl rfl ?_
                  rintro _ w ⟨rfl, hm_⟩; refine ⟨_, rfl, ?_⟩; clear hF; intro a hF; have hH := hH.same hm_
                  refine hK _ _ ?_; clear hK K
                  refine l_at hF rfl rfl rfl (x_move (hF.tmp 0 rfl)) ?_; clear hF; intro a hF
                  refine l_at hF rfl rfl rfl (x_eqn (xs := (itoaI (xOf xs))) (ys := xs) (hF.tmp 62 rfl) (hF.tmp 63 rfl) (itoaI_byte _) hb) ?_; clear hF; intro a hF
                  refine l_at hF rfl rfl rfl (x_assign (hF.tmp 60 rfl)) ?_; clear hF; intro a hF
                  refine l_at hF rfl rfl rfl (x_assign (hF.tmp 64 rfl)) ?_; clear hF; intro a hF
                  refine wpList_nil ?_
                  refine hK48 _ _ ?_
                  refine wp_ret ?_
                  try simp only [Exit.then, Exit.inBlock]
                  have hz := rnum_fin hb
                  exact fin_ret hF (res2 hF rfl rfl rfl) ⟨xOf xs, by rw [hz.1] <;> rfl, hH.mods, hz.2.2, hz.2.1⟩
  · have hc12 := hb12; try simp only [Bool.or_eq_true, Bool.and_eq_true, Bool.or_eq_false_iff, Bool.and_eq_false_iff, Bool.not_eq_true', Bool.not_eq_false', decide_eq_true_eq, decide_eq_false_iff_not, Bool.not_true, Bool.not_false] at hc12
    have htof := tOf_0 (xs := xs) (by omega)
    refine l_offg hF ((wanted_of hF rfl rfl rfl rfl).trans (by rw [hb12]; rfl)) rfl rfl ?_; clear hF; intro a hF
    refine l_offg hF ((wanted_of hF rfl rfl rfl rfl).trans (by rw [hb12]; rfl)) rfl rfl ?_; clear hF; intro a hF
    refine l_offg hF ((wanted_of hF rfl rfl rfl rfl).trans (by rw [hb12]; rfl)) rfl rfl ?_; clear hF; intro a hF
    refine l_at hF rfl rfl rfl (x_pickF (hF.tmp 12 rfl) hb12 rfl) ?_; clear hF; intro a hF
    refine wpList_nil ?_
    refine hK4 _ _ ?_
    refine wp_cond_false (hF.tmp 16 rfl) ?_
    refine wp_skip ?_
    refine hK3 _ _ ?_
    refine wp_seq_k fun khK49 hK49 => ?_
    refine wp_seq_k fun khK50 hK50 => ?_
    refine wp_region_lit ?_
    have hF := FrD.add hF hF 4 (v := .string (strOfNums (tOf xs))) (by rw [htof]; rfl)
    refine l_at hF rfl rfl rfl (x_move (hF.tmp 4 rfl)) ?_; clear hF; intro a hF
    refine l_at hF rfl rfl rfl (x_len_sn (xs := (tOf xs)) Tryd.underlying9 (hF.tmp 19 rfl)) ?_; clear hF; intro a hF
    refine l_at hF rfl rfl rfl (x_lss (hF.tmp 20 rfl) rfl) ?_; clear hF; intro a hF
    refine l_at hF rfl rfl rfl (x_move (hF.tmp 21 rfl)) ?_; clear hF; intro a hF
    refine split_bool hF 22 rfl (fun hb22 => ?_) (fun hb22 => ?_)
    · have hc22 := hb22; try simp only [Bool.or_eq_true, Bool.and_eq_true, Bool.or_eq_false_iff, Bool.and_eq_false_iff, Bool.not_eq_true', Bool.not_eq_false', decide_eq_true_eq, decide_eq_false_iff_not, Bool.not_true, Bool.not_false] at hc22
      have hz := rnum_len hb (.inl (by omega))
      refine l_offg hF ((wanted_of hF rfl rfl rfl rfl).trans (by rw [hb22]; rfl)) rfl rfl ?_; clear hF; intro a hF
      refine l_offg hF ((wanted_of hF rfl rfl rfl rfl).trans (by rw [hb22]; rfl)) rfl rfl ?_; clear hF; intro a hF
      refine l_offg hF ((wanted_of hF rfl rfl rfl rfl).trans (by rw [hb22]; rfl)) rfl rfl ?_; clear hF; intro a hF
      refine l_at hF rfl rfl rfl (x_pickT (hF.tmp 22 rfl) hb22 rfl) ?_; clear hF; intro a hF
      refine wpList_nil ?_
      refine hK50 _ _ ?_
      refine wp_cond_true (hF.tmp 26 rfl) ?_
      refine wp_seq_k fun khK51 hK51 => ?_
      refine wp_region_lit ?_
      refine l_at hF rfl rfl rfl (x_assign rfl) ?_; clear hF; intro a hF
      refine l_at hF rfl rfl rfl (x_assign rfl) ?_; clear hF; intro a hF
      refine wpList_nil ?_
      refine hK51 _ _ ?_
      refine wp_ret ?_
      try simp only [Exit.then, Exit.inBlock]
      exact fin_ret hF (res2 hF rfl rfl rfl) ⟨0, by rw [hz] <;> rfl, hH.mods, by decide, fun u hu => by rw [hz] at hu; cases hu⟩
    · have hc22 := hb22; try simp only [Bool.or_eq_true, Bool.and_eq_true, Bool.or_eq_false_iff, Bool.and_eq_false_iff, Bool.not_eq_true', Bool.not_eq_false', decide_eq_true_eq, decide_eq_false_iff_not, Bool.not_true, Bool.not_false] at hc22
      refine l_atg hF ((wanted_of hF rfl rfl rfl rfl).trans (by rw [hb22]; rfl)) rfl rfl (x_move (hF.tmp 4 rfl)) ?_; clear hF; intro a hF
      refine l_atg hF ((wanted_of hF rfl rfl rfl rfl).trans (by rw [hb22]; rfl)) rfl rfl (x_len_sn (xs := (tOf xs)) Tryd.underlying9 (hF.tmp 23 rfl)) ?_; clear hF; intro a hF
      refine l_atg hF ((wanted_of hF rfl rfl rfl rfl).trans (by rw [hb22]; rfl)) rfl rfl (x_gtr (hF.tmp 24 rfl) rfl) ?_; clear hF; intro a hF
      refine l_at hF rfl rfl rfl (x_pickF (hF.tmp 22 rfl) hb22 (hF.tmp 25 rfl)) ?_; clear hF; intro a hF
      refine wpList_nil ?_
      refine hK50 _ _ ?_
      refine wp_cond_split (hF.tmp 26 rfl) (fun hc26 => ?_) (fun hc26 => ?_)
      · have hk26_23 := hc26; try simp only [Bool.or_eq_true, Bool.and_eq_true, Bool.or_eq_false_iff, Bool.and_eq_false_iff, Bool.not_eq_true', Bool.not_eq_false', decide_eq_true_eq, decide_eq_false_iff_not, Bool.not_true, Bool.not_false] at hc26
        have hz := rnum_len hb (.inr (by omega))
        refine wp_seq_k fun khK52 hK52 => ?_
        refine wp_region_lit ?_
        refine l_at hF rfl rfl rfl (x_assign rfl) ?_; clear hF; intro a hF
        refine l_at hF rfl rfl rfl (x_assign rfl) ?_; clear hF; intro a hF
        refine wpList_nil ?_
        refine hK52 _ _ ?_
        refine wp_ret ?_
        try simp only [Exit.then, Exit.inBlock]
        exact fin_ret hF (res2 hF rfl rfl rfl) ⟨0, by rw [hz] <;> rfl, hH.mods, by decide, fun u hu => by rw [hz] at hu; cases hu⟩
      · have hk26_24 := hc26; try simp only [Bool.or_eq_true, Bool.and_eq_true, Bool.or_eq_false_iff, Bool.and_eq_false_iff, Bool.not_eq_true', Bool.not_eq_false', decide_eq_true_eq, decide_eq_false_iff_not, Bool.not_true, Bool.not_false] at hc26
        refine wp_skip ?_
        refine hK49 _ _ ?_
        refine wp_seq_k fun khK53 hK53 => ?_
        refine wp_region_lit ?_
        refine l_at hF rfl rfl rfl (x_assign rfl) ?_; clear hF; intro a hF
        refine wpList_nil ?_
        refine hK53 _ _ ?_
        refine wp_seq_k fun khK54 hK54 => ?_
        refine wp_seq_k fun khK55 hK55 => ?_
        refine wp_region_lit ?_
        refine l_at hF rfl rfl rfl (x_assign rfl) ?_; clear hF; intro a hF
        refine wpList_nil ?_
        refine hK55 _ _ ?_
        refine wp_block ?_
        refine wp_loop_ghost (fun n_ a w => ∃ k : Nat, n_ = (tOf xs).length - k ∧ (k ≤ (tOf xs).length) ∧ (∀ j, j < k → 48 ≤ gi (tOf xs) (j : Int) ∧ gi (tOf xs) (j : Int) ≤ 57) ∧ Fr 65 a [(0, .string (strOfNums xs)), (4, .string (strOfNums (tOf xs))), (5, .int .u64 (valD ((tOf xs).take k))), (6, .int .i64 (k : Int))] ∧ Hp (fun _ => False) w0 w []) ((tOf xs).length) ?_ ?_
        · exact ⟨0, rfl, by omega, fun j hj => by omega, ((((hF.bare.add hF 6 rfl).add hF 5 rfl).add hF 4 rfl).add hF 0 rfl), hH.sub _ (sub_nil _)⟩
        · rintro _ a w ⟨k, rfl, hq0_0, hq0_1, hF, hH⟩
          refine wp_seq_k fun khK56 hK56 => ?_
          refine wp_seq_k fun khK57 hK57 => ?_
          refine wp_region_lit ?_
          refine l_at hF rfl rfl rfl (x_move (hF.tmp 6 rfl)) ?_; clear hF; intro a hF
          refine l_at hF rfl rfl rfl (x_move (hF.tmp 4 rfl)) ?_; clear hF; intro a hF
          refine l_at hF rfl rfl rfl (x_len_sn (xs := (tOf xs)) Tryd.underlying9 (hF.tmp 28 rfl)) ?_; clear hF; intro a hF
          refine l_at hF rfl rfl rfl (x_lss (hF.tmp 27 rfl) (hF.tmp 29 rfl)) ?_; clear hF; intro a hF
          refine wpList_nil ?_
          refine hK57 _ _ ?_
          refine wp_cond_split (hF.tmp 30 rfl) (fun hc30 => ?_) (fun hc30 => ?_)
          · have hk30_25 := hc30; try simp only [Bool.or_eq_true, Bool.and_eq_true, Bool.or_eq_false_iff, Bool.and_eq_false_iff, Bool.not_eq_true', Bool.not_eq_false', decide_eq_true_eq, decide_eq_false_iff_not, Bool.not_true, Bool.not_false] at hc30
            refine wp_skip ?_
            refine hK56 _ _ ?_
            refine wp_seq_k fun khK58 hK58 => ?_
            refine wp_block ?_
            refine wp_seq_k fun khK59 hK59 => ?_
            refine wp_seq_k fun khK60 hK60 => ?_
            refine wp_region_lit ?_
            refine l_at hF rfl rfl rfl (x_move (hF.tmp 4 rfl)) ?_; clear hF; intro a hF
            refine l_at hF rfl rfl rfl (x_move (hF.tmp 6 rfl)) ?_; clear hF; intro a hF
            refine l_at hF rfl rfl rfl (x_idxS (xs := (tOf xs)) Tryd.underlying9 (hF.tmp 33 rfl) (hF.tmp 34 rfl) (tOf_byte hb) (by omega) (by omega)) ?_; clear hF; intro a hF
            refine l_at hF rfl rfl rfl (x_lss (hF.tmp 35 rfl) rfl) ?_; clear hF; intro a hF
            refine l_at hF rfl rfl rfl (x_move (hF.tmp 36 rfl)) ?_; clear hF; intro a hF
            refine split_bool hF 37 rfl (fun hb37 => ?_) (fun hb37 => ?_)
            · have hc37 := hb37; try simp only [Bool.or_eq_true, Bool.and_eq_true, Bool.or_eq_false_iff, Bool.and_eq_false_iff, Bool.not_eq_true', Bool.not_eq_false', decide_eq_true_eq, decide_eq_false_iff_not, Bool.not_true, Bool.not_false] at hc37
              have hz := rnum_dig hb (k := k) (by omega) (.inl hc37)
              refine l_offg hF ((wanted_of hF rfl rfl rfl rfl).trans (by rw [hb37]; rfl)) rfl rfl ?_; clear hF; intro a hF
              refine l_offg hF ((wanted_of hF rfl rfl rfl rfl).trans (by rw [hb37]; rfl)) rfl rfl ?_; clear hF; intro a hF
              refine l_offg hF ((wanted_of hF rfl rfl rfl rfl).trans (by rw [hb37]; rfl)) rfl rfl ?_; clear hF; intro a hF
              refine l_offg hF ((wanted_of hF rfl rfl rfl rfl).trans (by rw [hb37]; rfl)) rfl rfl ?_; clear hF; intro a hF
              refine l_at hF rfl rfl rfl (x_pickT (hF.tmp 37 rfl) hb37 rfl) ?_; clear hF; intro a hF
              refine wpList_nil ?_
              refine hK60 _ _ ?_
              refine wp_cond_true (hF.tmp 42 rfl) ?_
              refine wp_seq_k fun khK61 hK61 => ?_
              refine wp_region_lit ?_
              refine l_at hF rfl rfl rfl (x_assign rfl) ?_; clear hF; intro a hF
              refine l_at hF rfl rfl rfl (x_assign rfl) ?_; clear hF; intro a hF
              refine wpList_nil ?_
              refine hK61 _ _ ?_
              refine wp_ret ?_
              try simp only [Exit.then, Exit.inBlock]
              exact fin_ret hF (res2 hF rfl rfl rfl) ⟨0, by rw [hz] <;> rfl, hH.mods, by decide, fun u hu => by rw [hz] at hu; cases hu⟩
            · have hc37 := hb37; try simp only [Bool.or_eq_true, Bool.and_eq_true, Bool.or_eq_false_iff, Bool.and_eq_false_iff, Bool.not_eq_true', Bool.not_eq_false', decide_eq_true_eq, decide_eq_false_iff_not, Bool.not_true, Bool.not_false] at hc37
              refine l_atg hF ((wanted_of hF rfl rfl rfl rfl).trans (by rw [hb37]; rfl)) rfl rfl (x_move (hF.tmp 4 rfl)) ?_; clear hF; intro a hF
              refine l_atg hF ((wanted_of hF rfl rfl rfl rfl).trans (by rw [hb37]; rfl)) rfl rfl (x_move (hF.tmp 6 rfl)) ?_; clear hF; intro a hF
              refine l_atg hF ((wanted_of hF rfl rfl rfl rfl).trans (by rw [hb37]; rfl)) rfl rfl (x_idxS (xs := (tOf xs)) Tryd.underlying9 (hF.tmp 38 rfl) (hF.tmp 39 rfl) (tOf_byte hb) (by omega) (by omega)) ?_; clear hF; intro a hF
              refine l_atg hF ((wanted_of hF rfl rfl rfl rfl).trans (by rw [hb37]; rfl)) rfl rfl (x_gtr (hF.tmp 40 rfl) rfl) ?_; clear hF; intro a hF
              refine l_at hF rfl rfl rfl (x_pickF (hF.tmp 37 rfl) hb37 (hF.tmp 41 rfl)) ?_; clear hF; intro a hF
              refine wpList_nil ?_
              refine hK60 _ _ ?_
              refine wp_cond_split (hF.tmp 42 rfl) (fun hc42 => ?_) (fun hc42 => ?_)
              · have hk42_26 := hc42; try simp only [Bool.or_eq_true, Bool.and_eq_true, Bool.or_eq_false_iff, Bool.and_eq_false_iff, Bool.not_eq_true', Bool.not_eq_false', decide_eq_true_eq, decide_eq_false_iff_not, Bool.not_true, Bool.not_false] at hc42
                have hz := rnum_dig hb (k := k) (by omega) (.inr hc42)
                refine wp_seq_k fun khK62 hK62 => ?_
                refine wp_region_lit ?_
                refine l_at hF rfl rfl rfl (x_assign rfl) ?_; clear hF; intro a hF
                refine l_at hF rfl rfl rfl (x_assign rfl) ?_; clear hF; intro a hF
                refine wpList_nil ?_
                refine hK62 _ _ ?_
                refine wp_ret ?_
                try simp only [Exit.then, Exit.inBlock]
                exact fin_ret hF (res2 hF rfl rfl rfl) ⟨0, by rw [hz] <;> rfl, hH.mods, by decide, fun u hu => by rw [hz] at hu; cases hu⟩
              · have hk42_27 := hc42; try simp only [Bool.or_eq_true, Bool.and_eq_true, Bool.or_eq_false_iff, Bool.and_eq_false_iff, Bool.not_eq_true', Bool.not_eq_false', decide_eq_true_eq, decide_eq_false_iff_not, Bool.not_true, Bool.not_false] at hc42
                refine wp_skip ?_
                refine hK59 _ _ ?_
                refine wp_region_lit ?_
                refine l_at hF rfl rfl rfl (x_move (hF.tmp 5 rfl)) ?_; clear hF; intro a hF
                refine l_at hF rfl rfl rfl (x_mul rfl (hF.tmp 43 rfl) (wu64 (by have := hq0_1 ; have hvb := valD_bound (ds := tOf xs) (k := k) (by omega) hq0_1; have hp := pow19 (k := k) (by omega); omega) (by have := hq0_1 ; have hvb := valD_bound (ds := tOf xs) (k := k) (by omega) hq0_1; have hp := pow19 (k := k) (by omega); omega))) ?_; clear hF; intro a hF
                refine l_at hF rfl rfl rfl (x_move (hF.tmp 4 rfl)) ?_; clear hF; intro a hF
                refine l_at hF rfl rfl rfl (x_move (hF.tmp 6 rfl)) ?_; clear hF; intro a hF
                refine l_at hF rfl rfl rfl (x_idxS (xs := (tOf xs)) Tryd.underlying9 (hF.tmp 45 rfl) (hF.tmp 46 rfl) (tOf_byte hb) (by omega) (by omega)) ?_; clear hF; intro a hF
                refine l_at hF rfl rfl rfl (x_sub (hF.tmp 47 rfl) rfl (wu8 (by omega) (by omega))) ?_; clear hF; intro a hF
                refine l_at hF rfl rfl rfl (x_conv Tryd.underlying101 ⟨_, Tryd.underlying5⟩ (hF.tmp 48 rfl) (wu64 (by omega) (by omega))) ?_; clear hF; intro a hF
                refine l_at hF rfl rfl rfl (x_add (hF.tmp 44 rfl) (hF.tmp 49 rfl) (wu64 (by have := hq0_1 ; have hvb := valD_bound (ds := tOf xs) (k := k) (by omega) hq0_1; have hp := pow19 (k := k) (by omega); omega) (by have := hq0_1 ; have hvb := valD_bound (ds := tOf xs) (k := k) (by omega) hq0_1; have hp := pow19 (k := k) (by omega); omega))) ?_; clear hF; intro a hF
                refine l_at hF rfl rfl rfl (x_assign (hF.tmp 50 rfl)) ?_; clear hF; intro a hF
                refine wpList_nil ?_
                refine hK58 _ _ ?_
                refine wp_region_lit ?_
                refine l_at hF rfl rfl rfl (x_move (hF.tmp 6 rfl)) ?_; clear hF; intro a hF
                refine l_at hF rfl rfl rfl (x_add (hF.tmp 31 rfl) rfl (w64 (by omega) (by omega))) ?_; clear hF; intro a hF
                refine l_at hF rfl rfl rfl (x_assign (hF.tmp 32 rfl)) ?_; clear hF; intro a hF
                refine wpList_nil ?_
                have hFs : Fr 65 a [(0, .string (strOfNums xs)), (4, .string (strOfNums (tOf xs))), (5, .int .u64 (10 * (valD ((tOf xs).take k)) + ((gi (tOf xs) (k : Int)) - 48))), (6, .int .i64 ((k : Int) + 1))] := ((((hF.bare.add hF 6 rfl).add hF 5 rfl).add hF 4 rfl).add hF 0 rfl)
                rw [valD_step (by omega)] at hFs
                exact ⟨_, by omega, ⟨k + 1, rfl, by omega, dig_step hq0_1 hc37 hc42, hFs, hH.sub _ (sub_nil _)⟩⟩
          · have hk30_28 := hc30; try simp only [Bool.or_eq_true, Bool.and_eq_true, Bool.or_eq_false_iff, Bool.and_eq_false_iff, Bool.not_eq_true', Bool.not_eq_false', decide_eq_true_eq, decide_eq_false_iff_not, Bool.not_true, Bool.not_false] at hc30
            obtain rfl : k = (tOf xs).length := by omega
            rw [List.take_length] at hF
            refine wp_exit ?_
            refine hK54 _ _ ?_
            refine wp_seq_k fun khK63 hK63 => ?_
            refine wp_seq_k fun khK64 hK64 => ?_
            refine wp_region_lit ?_
            refine l_at hF rfl rfl rfl (x_move (hF.tmp 5 rfl)) ?_; clear hF; intro a hF
            refine l_at hF rfl rfl rfl (x_gtr (hF.tmp 51 rfl) rfl) ?_; clear hF; intro a hF
            refine wpList_nil ?_
            refine hK64 _ _ ?_
            refine wp_cond_split (hF.tmp 52 rfl) (fun hc52 => ?_) (fun hc52 => ?_)
            · have hk52_29 := hc52; try simp only [Bool.or_eq_true, Bool.and_eq_true, Bool.or_eq_false_iff, Bool.and_eq_false_iff, Bool.not_eq_true', Bool.not_eq_false', decide_eq_true_eq, decide_eq_false_iff_not, Bool.not_true, Bool.not_false] at hc52
              have hz := rnum_big hb hc52
              refine wp_seq_k fun khK65 hK65 => ?_
              refine wp_region_lit ?_
              refine l_at hF rfl rfl rfl (x_assign rfl) ?_; clear hF; intro a hF
              refine l_at hF rfl rfl rfl (x_assign rfl) ?_; clear hF; intro a hF
              refine wpList_nil ?_
              refine hK65 _ _ ?_
              refine wp_ret ?_
              try simp only [Exit.then, Exit.inBlock]
              exact fin_ret hF (res2 hF rfl rfl rfl) ⟨0, by rw [hz] <;> rfl, hH.mods, by decide, fun u hu => by rw [hz] at hu; cases hu⟩
            · have hk52_30 := hc52; try simp only [Bool.or_eq_true, Bool.and_eq_true, Bool.or_eq_false_iff, Bool.and_eq_false_iff, Bool.not_eq_true', Bool.not_eq_false', decide_eq_true_eq, decide_eq_false_iff_not, Bool.not_true, Bool.not_false] at hc52
              refine wp_skip ?_
              refine hK63 _ _ ?_
              refine wp_seq_k fun khK66 hK66 => ?_
              refine wp_region_lit ?_
              refine l_at hF rfl rfl rfl (x_move (hF.tmp 5 rfl)) ?_; clear hF; intro a hF
              refine l_at hF rfl rfl rfl (x_conv Tryd.underlying2 ⟨_, Tryd.underlying101⟩ (hF.tmp 53 rfl) rfl) ?_; clear hF; intro a hF
              refine l_at hF rfl rfl rfl (x_assign (hF.tmp 54 rfl)) ?_; clear hF; intro a hF
              refine wpList_nil ?_
              refine hK66 _ _ ?_
              refine wp_seq_k fun khK67 hK67 => ?_
              refine wp_seq_k fun khK68 hK68 => ?_
              refine wp_region_lit ?_
              refine l_at hF rfl rfl rfl (x_move (hF.tmp 4 rfl)) ?_; clear hF; intro a hF
              refine l_at hF rfl rfl rfl (x_move (hF.tmp 0 rfl)) ?_; clear hF; intro a hF
              refine l_at hF rfl rfl rfl (x_nen (xs := (tOf xs)) (ys := xs) (hF.tmp 55 rfl) (hF.tmp 56 rfl) (tOf_byte hb) hb) ?_; clear hF; intro a hF
              refine wpList_nil ?_
              refine hK68 _ _ ?_
              refine wp_cond_split (hF.tmp 57 rfl) (fun hc57 => ?_) (fun hc57 => ?_)
              · have hk57_31 := hc57; try simp only [Bool.or_eq_true, Bool.and_eq_true, Bool.or_eq_false_iff, Bool.and_eq_false_iff, Bool.not_eq_true', Bool.not_eq_false', decide_eq_true_eq, decide_eq_false_iff_not, Bool.not_true, Bool.not_false] at hc57
                have hxof := xOf_neg hc57
                refine wp_region_lit ?_
                refine l_at hF rfl rfl rfl (x_move (hF.tmp 7 rfl)) ?_; clear hF; intro a hF
                refine l_at hF rfl rfl rfl (x_neg (hF.tmp 58 rfl) rfl) ?_; clear hF; intro a hF
                refine l_at hF rfl rfl rfl (x_assign (hF.tmp 59 rfl)) ?_; clear hF; intro a hF
                refine wpList_nil ?_
                refine hK67 _ _ ?_
                refine wp_seq_k fun khK69 hK69 => ?_
                refine wp_region_lit ?_
                have hF := FrD.add hF hF 7 (v := .int .i64 (xOf xs)) (by rw [hxof]; rfl)
                refine l_at hF rfl rfl rfl (x_move (hF.tmp 7 rfl)) ?_; clear hF; intro a hF
                refine l_at hF rfl rfl rfl (x_move (hF.tmp 7 rfl)) ?_; clear hF; intro a hF
                refine wpList_plain rfl fun K hK => ?_
                refine w_call hF (x_enter Tryd.func9 (by kernel_rfl) rfl (by simp only [List.map_toArray, List.map_cons, List.map_nil, hF.tmp 61 rfl] <;> rfl)) (text_calls _ (rnum_fin hb).2.2) rfl rfl ?_
                rintro _ w ⟨rfl, hm_⟩; refine ⟨_, rfl, ?_⟩; clear hF; intro a hF; have hH := hH.same hm_
                refine hK _ _ ?_; clear hK K
                refine l_at hF rfl rfl rfl (x_move (hF.tmp 0 rfl)) ?_; clear hF; intro a hF
                refine l_at hF rfl rfl rfl (x_eqn (xs := (itoaI (xOf xs))) (ys := xs) (hF.tmp 62 rfl) (hF.tmp 63 rfl) (itoaI_byte _) hb) ?_; clear hF; intro a hF
                refine l_at hF rfl rfl rfl (x_assign (hF.tmp 60 rfl)) ?_; clear hF; intro a hF
                refine l_at hF rfl rfl rfl (x_assign (hF.tmp 64 rfl)) ?_; clear hF; intro a hF
                refine wpList_nil ?_
                refine hK69 _ _ ?_
                refine wp_ret ?_
                try simp only [Exit.then, Exit.inBlock]
                have hz := rnum_fin hb
                exact fin_ret hF (res2 hF rfl rfl rfl) ⟨xOf xs, by rw [hz.1] <;> rfl, hH.mods, hz.2.2, hz.2.1⟩
              · have hk57_32 := hc57; try simp only [Bool.or_eq_true, Bool.and_eq_true, Bool.or_eq_false_iff, Bool.and_eq_false_iff, Bool.not_eq_true', Bool.not_eq_false', decide_eq_true_eq, decide_eq_false_iff_not, Bool.not_true, Bool.not_false] at hc57
                have hxof := xOf_pos hc57
                refine wp_skip ?_
                refine hK67 _ _ ?_
                refine wp_seq_k fun khK70 hK70 => ?_
                refine wp_region_lit ?_
                have hF := FrD.add hF hF 7 (v := .int .i64 (xOf xs)) (by rw [hxof]; rfl)
                refine l_at hF rfl rfl rfl (x_move (hF.tmp 7 rfl)) ?_; clear hF; intro a hF
                refine l_at hF rfl rfl rfl (x_move (hF.tmp 7 rfl)) ?_; clear hF; intro a hF
                refine wpList_plain rfl fun K hK => ?_
                refine w_call hF (x_enter Tryd.func9 (by kernel_rfl) rfl (by simp only [List.map_toArray, List.map_cons, List.map_nil, hF.tmp 61 rfl] <;> rfl)) (text_calls _ (rnum_fin hb).2.2) rfl rfl ?_
                rintro _ w ⟨rfl, hm_⟩; refine ⟨_, rfl, ?_⟩; clear hF; intro a hF; have hH := hH.same hm_
                refine hK _ _ ?_; clear hK K
                refine l_at hF rfl rfl rfl (x_move (hF.tmp 0 rfl)) ?_; clear hF; intro a hF
                refine l_at hF rfl rfl rfl (x_eqn (xs := (itoaI (xOf xs))) (ys := xs) (hF.tmp 62 rfl) (hF.tmp 63 rfl) (itoaI_byte _) hb) ?_; clear hF; intro a hF
                refine l_at hF rfl rfl rfl (x_assign (hF.tmp 60 rfl)) ?_; clear hF; intro a hF
                refine l_at hF rfl rfl rfl (x_assign (hF.tmp 64 rfl)) ?_; clear hF; intro a hF
                refine wpList_nil ?_
                refine hK70 _ _ ?_
                refine wp_ret ?_
                try simp only [Exit.then, Exit.inBlock]
                have hz := rnum_fin hb
                exact fin_ret hF (res2 hF rfl rfl rfl) ⟨xOf xs, by rw [hz.1] <;> rfl, hH.mods, hz.2.2, hz.2.1⟩

set_option maxRecDepth 100000 in
set_option maxHeartbeats 1000000 in
theorem rsum_calls (w0 : World) {xs : List Int} (hs : xs.length ≤ 100000000) (hb : Byte xs) {n : Int} (hn : Fits n) : Calls Tryd.prog 18 #[.string (strOfNums xs), .int .i64 n] w0 fun e w' => e = .returned (.tuple #[.string (strOfNums (sumI xs n)), .int .i64 (sumEI xs n)]) ∧ Mods (fun _ => False) w0 w' := by
  refine calls_of_wp Tryd.func18 rfl ?_
  have hF := Fr.enter #[.string (strOfNums xs), .int .i64 n] 33 (slotsOf [.string (strOfNums xs), .int .i64 n] 0) (Nat.le_of_ble_eq_true rfl) (fun i v h => by have h2 := (get_slotsOf _ 0 i v h).2; simpa only [List.getElem?_toArray, Nat.sub_zero] using h2)
  have hH := Hp.nil (fun _ => False) w0
  rw [Tryd.ntmps18]
  revert hF; generalize (⟨(#[.string (strOfNums xs), .int .i64 n] : Array Value) ++ Array.replicate (33 - (#[.string (strOfNums xs), .int .i64 n] : Array Value).size) undef, []⟩ : Act) = a; intro hF
  refine wp_seq_k fun khK1 hK1 => ?_
  refine wp_region_lit ?_
  refine l_at hF rfl rfl rfl (x_assign (show _ = Value.string (strOfNums ([] : List Int)) by kernel_rfl)) ?_; clear hF; intro a hF
  refine l_at hF rfl rfl rfl (x_assign rfl) ?_; clear hF; intro a hF
  refine wpList_nil ?_
  refine hK1 _ _ ?_
  refine wp_seq_k fun khK2 hK2 => ?_
  refine wp_region_lit ?_
  refine l_at hF rfl rfl rfl (x_move (hF.tmp 0 rfl)) ?_; clear hF; intro a hF
  refine wpList_plain rfl fun K hK => ?_
  refine w_call hF (x_enter Tryd.func38 (by kernel_rfl) rfl (by simp only [List.map_toArray, List.map_cons, List.map_nil, hF.tmp 10 rfl] <;> rfl)) (rnumber_calls (xs := xs) _ hs hb) rfl rfl ?_
  rintro _ w ⟨vn, rfl, hm_, hfv, hvn⟩; refine ⟨_, rfl, ?_⟩; clear hF; intro a hF; have hH := hH.same hm_
  refine hK _ _ ?_; clear hK K
  refine l_at hF rfl rfl rfl (x_move (hF.tmp 11 rfl)) ?_; clear hF; intro a hF
  refine l_at hF rfl rfl rfl (x_extract (hF.tmp 9 rfl) rfl) ?_; clear hF; intro a hF
  refine l_at hF rfl rfl rfl (x_extract (hF.tmp 9 rfl) rfl) ?_; clear hF; intro a hF
  refine l_at hF rfl rfl rfl (x_assign (hF.tmp 12 rfl)) ?_; clear hF; intro a hF
  refine l_at hF rfl rfl rfl (x_assign (hF.tmp 13 rfl)) ?_; clear hF; intro a hF
  refine wpList_nil ?_
  refine hK2 _ _ ?_
  refine wp_seq_k fun khK3 hK3 => ?_
  refine wp_seq_k fun khK4 hK4 => ?_
  refine wp_region_lit ?_
  refine l_at hF rfl rfl rfl (x_move (hF.tmp 7 rfl)) ?_; clear hF; intro a hF
  refine l_at hF rfl rfl rfl (x_not (hF.tmp 14 rfl)) ?_; clear hF; intro a hF
  refine wpList_nil ?_
  refine hK4 _ _ ?_
  refine wp_cond_split (hF.tmp 15 rfl) (fun hc15 => ?_) (fun hc15 => ?_)
  · have hk15_1 := hc15; try simp only [Bool.or_eq_true, Bool.and_eq_true, Bool.or_eq_false_iff, Bool.and_eq_false_iff, Bool.not_eq_true', Bool.not_eq_false', decide_eq_true_eq, decide_eq_false_iff_not, Bool.not_true, Bool.not_false] at hc15
    have hz := sumI_no (n := n) (xs := xs) (by simpa using hc15)
    refine wp_seq_k fun khK5 hK5 => ?_
    refine wp_region_lit ?_
    refine l_at hF rfl rfl rfl (x_assign (show _ = Value.string (strOfNums ([] : List Int)) by kernel_rfl)) ?_; clear hF; intro a hF
    refine l_at hF rfl rfl rfl (x_assign rfl) ?_; clear hF; intro a hF
    refine wpList_nil ?_
    refine hK5 _ _ ?_
    refine wp_ret ?_
    try simp only [Exit.then, Exit.inBlock]
    exact fin_ret hF (res2 hF rfl rfl rfl) ⟨by rw [hz.1, hz.2] <;> rfl, hH.mods⟩
  · have hk15_2 := hc15; try simp only [Bool.or_eq_true, Bool.and_eq_true, Bool.or_eq_false_iff, Bool.and_eq_false_iff, Bool.not_eq_true', Bool.not_eq_false', decide_eq_true_eq, decide_eq_false_iff_not, Bool.not_true, Bool.not_false] at hc15
    obtain ⟨x, hx⟩ := num_is (xs := xs) (by simpa using hc15)
    obtain rfl := hvn x hx
    have hfx := fits_of hb hx
    have hov := over2 hfx hn
    refine wp_skip ?_
    refine hK3 _ _ ?_
    refine wp_seq_k fun khK6 hK6 => ?_
    refine wp_region_lit ?_
    refine l_at hF rfl rfl rfl (x_move (hF.tmp 6 rfl)) ?_; clear hF; intro a hF
    refine l_at hF rfl rfl rfl (x_move (hF.tmp 1 rfl)) ?_; clear hF; intro a hF
    refine l_at hF rfl rfl rfl (x_add (hF.tmp 16 rfl) (hF.tmp 17 rfl) rfl) ?_; clear hF; intro a hF
    refine l_at hF rfl rfl rfl (x_assign (hF.tmp 18 rfl)) ?_; clear hF; intro a hF
    refine wpList_nil ?_
    refine hK6 _ _ ?_
    refine wp_seq_k fun khK7 hK7 => ?_
    refine wp_seq_k fun khK8 hK8 => ?_
    refine wp_region_lit ?_
    refine l_at hF rfl rfl rfl (x_move (hF.tmp 6 rfl)) ?_; clear hF; intro a hF
    refine l_at hF rfl rfl rfl (x_geq (hF.tmp 19 rfl) rfl) ?_; clear hF; intro a hF
    refine l_at hF rfl rfl rfl (x_move (hF.tmp 1 rfl)) ?_; clear hF; intro a hF
    refine l_at hF rfl rfl rfl (x_geq (hF.tmp 21 rfl) rfl) ?_; clear hF; intro a hF
    refine l_at hF rfl rfl rfl (x_eqb (hF.tmp 20 rfl) (hF.tmp 22 rfl) Tryd.underlying4) ?_; clear hF; intro a hF
    refine l_at hF rfl rfl rfl (x_move (hF.tmp 23 rfl)) ?_; clear hF; intro a hF
    refine split_bool hF 24 rfl (fun hb24 => ?_) (fun hb24 => ?_)
    · have hc24 := hb24; try simp only [Bool.or_eq_true, Bool.and_eq_true, Bool.or_eq_false_iff, Bool.and_eq_false_iff, Bool.not_eq_true', Bool.not_eq_false', decide_eq_true_eq, decide_eq_false_iff_not, Bool.not_true, Bool.not_false] at hc24
      refine l_atg hF ((wanted_of hF rfl rfl rfl rfl).trans (by rw [hb24]; rfl)) rfl rfl (x_move (hF.tmp 8 rfl)) ?_; clear hF; intro a hF
      refine l_atg hF ((wanted_of hF rfl rfl rfl rfl).trans (by rw [hb24]; rfl)) rfl rfl (x_geq (hF.tmp 25 rfl) rfl) ?_; clear hF; intro a hF
      refine l_atg hF ((wanted_of hF rfl rfl rfl rfl).trans (by rw [hb24]; rfl)) rfl rfl (x_move (hF.tmp 6 rfl)) ?_; clear hF; intro a hF
      refine l_atg hF ((wanted_of hF rfl rfl rfl rfl).trans (by rw [hb24]; rfl)) rfl rfl (x_geq (hF.tmp 27 rfl) rfl) ?_; clear hF; intro a hF
      refine l_atg hF ((wanted_of hF rfl rfl rfl rfl).trans (by rw [hb24]; rfl)) rfl rfl (x_neb (hF.tmp 26 rfl) (hF.tmp 28 rfl) Tryd.underlying4) ?_; clear hF; intro a hF
      refine l_at hF rfl rfl rfl (x_pickT (hF.tmp 24 rfl) hb24 (hF.tmp 29 rfl)) ?_; clear hF; intro a hF
      refine wpList_nil ?_
      refine hK8 _ _ ?_
      refine wp_cond_split (hF.tmp 30 rfl) (fun hc30 => ?_) (fun hc30 => ?_)
      · have hk30_3 := hc30; try simp only [Bool.or_eq_true, Bool.and_eq_true, Bool.or_eq_false_iff, Bool.and_eq_false_iff, Bool.not_eq_true', Bool.not_eq_false', decide_eq_true_eq, decide_eq_false_iff_not, Bool.not_true, Bool.not_false] at hc30
        rw [hb24, hk30_3] at hov
        have hz := sumI_big hx (n := n) (fun hf => by rw [decide_eq_true hf] at hov; cases hov)
        refine wp_seq_k fun khK9 hK9 => ?_
        refine wp_region_lit ?_
        refine l_at hF rfl rfl rfl (x_assign (show _ = Value.string (strOfNums ([] : List Int)) by kernel_rfl)) ?_; clear hF; intro a hF
        refine l_at hF rfl rfl rfl (x_assign rfl) ?_; clear hF; intro a hF
        refine wpList_nil ?_
        refine hK9 _ _ ?_
        refine wp_ret ?_
        try simp only [Exit.then, Exit.inBlock]
        exact fin_ret hF (res2 hF rfl rfl rfl) ⟨by rw [hz.1, hz.2] <;> rfl, hH.mods⟩
      · have hk30_4 := hc30; try simp only [Bool.or_eq_true, Bool.and_eq_true, Bool.or_eq_false_iff, Bool.and_eq_false_iff, Bool.not_eq_true', Bool.not_eq_false', decide_eq_true_eq, decide_eq_false_iff_not, Bool.not_true, Bool.not_false] at hc30
        rw [hb24, hk30_4] at hov
        have hfit : Fits (vn + n) := by by_cases hf : Fits (vn + n); exact hf; rw [decide_eq_false hf] at hov; cases hov
        have hz := sumI_yes hx hfit
        have hwr := wrap_fits hfit
        refine wp_skip ?_
        refine hK7 _ _ ?_
        refine wp_seq_k fun khK10 hK10 => ?_
        refine wp_region_lit ?_
        rw [hwr] at hF
        refine l_at hF rfl rfl rfl (x_move (hF.tmp 8 rfl)) ?_; clear hF; intro a hF
        refine wpList_plain rfl fun K hK => ?_
        refine w_call hF (x_enter Tryd.func9 (by kernel_rfl) rfl (by simp only [List.map_toArray, List.map_cons, List.map_nil, hF.tmp 31 rfl] <;> rfl)) (text_calls _ hfit) rfl rfl ?_
        rintro _ w ⟨rfl, hm_⟩; refine ⟨_, rfl, ?_⟩; clear hF; intro a hF; have hH := hH.same hm_
        refine hK _ _ ?_; clear hK K
        refine l_at hF rfl rfl rfl (x_assign (hF.tmp 32 rfl)) ?_; clear hF; intro a hF
        refine l_at hF rfl rfl rfl (x_assign rfl) ?_; clear hF; intro a hF
        refine wpList_nil ?_
        refine hK10 _ _ ?_
        refine wp_ret ?_
        try simp only [Exit.then, Exit.inBlock]
        exact fin_ret hF (res2 hF rfl rfl rfl) ⟨by rw [hz.1, hz.2] <;> rfl, hH.mods⟩
    · have hc24 := hb24; try simp only [Bool.or_eq_true, Bool.and_eq_true, Bool.or_eq_false_iff, Bool.and_eq_false_iff, Bool.not_eq_true', Bool.not_eq_false', decide_eq_true_eq, decide_eq_false_iff_not, Bool.not_true, Bool.not_false] at hc24
      rw [hb24] at hov
      have hfit : Fits (vn + n) := by by_cases hf : Fits (vn + n); exact hf; rw [decide_eq_false hf] at hov; cases hov
      have hz := sumI_yes hx hfit
      have hwr := wrap_fits hfit
      refine l_offg hF ((wanted_of hF rfl rfl rfl rfl).trans (by rw [hb24]; rfl)) rfl rfl ?_; clear hF; intro a hF
      refine l_offg hF ((wanted_of hF rfl rfl rfl rfl).trans (by rw [hb24]; rfl)) rfl rfl ?_; clear hF; intro a hF
      refine l_offg hF ((wanted_of hF rfl rfl rfl rfl).trans (by rw [hb24]; rfl)) rfl rfl ?_; clear hF; intro a hF
      refine l_offg hF ((wanted_of hF rfl rfl rfl rfl).trans (by rw [hb24]; rfl)) rfl rfl ?_; clear hF; intro a hF
      refine l_offg hF ((wanted_of hF rfl rfl rfl rfl).trans (by rw [hb24]; rfl)) rfl rfl ?_; clear hF; intro a hF
      refine l_at hF rfl rfl rfl (x_pickF (hF.tmp 24 rfl) hb24 rfl) ?_; clear hF; intro a hF
      refine wpList_nil ?_
      refine hK8 _ _ ?_
      refine wp_cond_false (hF.tmp 30 rfl) ?_
      refine wp_skip ?_
      refine hK7 _ _ ?_
      refine wp_seq_k fun khK11 hK11 => ?_
      refine wp_region_lit ?_
      rw [hwr] at hF
      refine l_at hF rfl rfl rfl (x_move (hF.tmp 8 rfl)) ?_; clear hF; intro a hF
      refine wpList_plain rfl fun K hK => ?_
      refine w_call hF (x_enter Tryd.func9 (by kernel_rfl) rfl (by simp only [List.map_toArray, List.map_cons, List.map_nil, hF.tmp 31 rfl] <;> rfl)) (text_calls _ hfit) rfl rfl ?_
      rintro _ w ⟨rfl, hm_⟩; refine ⟨_, rfl, ?_⟩; clear hF; intro a hF; have hH := hH.same hm_
      refine hK _ _ ?_; clear hK K
      refine l_at hF rfl rfl rfl (x_assign (hF.tmp 32 rfl)) ?_; clear hF; intro a hF
      refine l_at hF rfl rfl rfl (x_assign rfl) ?_; clear hF; intro a hF
      refine wpList_nil ?_
      refine hK11 _ _ ?_
      refine wp_ret ?_
      try simp only [Exit.then, Exit.inBlock]
      exact fin_ret hF (res2 hF rfl rfl rfl) ⟨by rw [hz.1, hz.2] <;> rfl, hH.mods⟩

theorem refEnc_at {w0 : World} {ok : Nat → Prop} {A : Option Addr} {xs : List Fld} {c : Nat} (hr : Rd FE w0 ok A xs c) {ys : List Int} (h : encR xs = some ys) : Calls Tryd.prog 34 #[.slice A xs.length c] w0 fun e w' => ∃ v er, e = .returned (.tuple #[v, .int .i64 er]) ∧ Mods (fun _ => False) w0 w' ∧ RowOut (.int .u8) 5 w0 w' v ys := by
  refine (refEnc_calls w0 hr).mono ?_
  rintro e w' ⟨v, he, h1, h2⟩
  rw [h] at h2
  exact ⟨v, _, he, h1, h2⟩

set_option maxRecDepth 100000 in
set_option maxHeartbeats 1000000 in
theorem raenc_calls (w0 : World) {ok : Nat → Prop} {A : Option Addr} {xs : List StepD} {c : Nat} (hr : Rd StE w0 ok A xs c) (hbs : ∀ s ∈ xs, StepB s) : Calls Tryd.prog 14 #[.slice A xs.length c] w0 fun e w' => ∃ v, e = .returned (.tuple #[v, .int .i64 (encE xs)]) ∧ Mods (fun _ => False) w0 w' ∧ RowOut (.int .u8) 5 w0 w' v (encT xs) := by
  refine calls_of_wp Tryd.func14 rfl ?_
  have hF := Fr.enter #[.slice A xs.length c] 75 (slotsOf [.slice A xs.length c] 0) (Nat.le_of_ble_eq_true rfl) (fun i v h => by have h2 := (get_slotsOf _ 0 i v h).2; simpa only [List.getElem?_toArray, Nat.sub_zero] using h2)
  have hH := Hp.nil (fun _ => False) w0
  rw [Tryd.ntmps14]
  revert hF; generalize (⟨(#[.slice A xs.length c] : Array Value) ++ Array.replicate (75 - (#[.slice A xs.length c] : Array Value).size) undef, []⟩ : Act) = a; intro hF
  have hH := hH.arg 901 hr.all (fun _ h => ⟨h, fun h => h⟩)
  have hle901 := hr.le; unfold maxLen at hle901
  refine wp_seq_k fun khK1 hK1 => ?_
  refine wp_region_lit ?_
  refine l_at hF rfl rfl rfl (x_assign rfl) ?_; clear hF; intro a hF
  refine l_at hF rfl rfl rfl (x_assign rfl) ?_; clear hF; intro a hF
  refine wpList_nil ?_
  refine hK1 _ _ ?_
  refine wp_seq_k fun khK2 hK2 => ?_
  refine wp_seq_k fun khK3 hK3 => ?_
  refine wp_region_lit ?_
  refine l_at hF rfl rfl rfl (x_move (hF.tmp 0 rfl)) ?_; clear hF; intro a hF
  refine l_at hF rfl rfl rfl (x_len_slice Tryd.underlying28 (hF.tmp 10 rfl)) ?_; clear hF; intro a hF
  refine l_at hF rfl rfl rfl (x_gtr (hF.tmp 11 rfl) rfl) ?_; clear hF; intro a hF
  refine wpList_nil ?_
  refine hK3 _ _ ?_
  refine wp_cond_split (hF.tmp 12 rfl) (fun hc12 => ?_) (fun hc12 => ?_)
  · have hk12_1 := hc12; try simp only [Bool.or_eq_true, Bool.and_eq_true, Bool.or_eq_false_iff, Bool.and_eq_false_iff, Bool.not_eq_true', Bool.not_eq_false', decide_eq_true_eq, decide_eq_false_iff_not, Bool.not_true, Bool.not_false] at hc12
    have hz := enc_many hc12
    refine wp_seq_k fun khK4 hK4 => ?_
    refine wp_region_lit ?_
    refine l_at hF rfl rfl rfl (x_assign rfl) ?_; clear hF; intro a hF
    refine l_at hF rfl rfl rfl (x_assign rfl) ?_; clear hF; intro a hF
    refine wpList_nil ?_
    refine hK4 _ _ ?_
    refine wp_ret ?_
    try simp only [Exit.then, Exit.inBlock]
    have hz2 := encT_0 (xs := xs) (by rw [hz]; decide)
    exact fin_ret hF (res2 hF rfl rfl rfl) ⟨.slice none 0 0, by rw [hz] <;> rfl, hH.mods, by rw [hz2]; exact RowOut.nil _ _ _ _⟩
  · have hk12_2 := hc12; try simp only [Bool.or_eq_true, Bool.and_eq_true, Bool.or_eq_false_iff, Bool.and_eq_false_iff, Bool.not_eq_true', Bool.not_eq_false', decide_eq_true_eq, decide_eq_false_iff_not, Bool.not_true, Bool.not_false] at hc12
    refine wp_skip ?_
    refine hK2 _ _ ?_
    refine wp_seq_k fun khK5 hK5 => ?_
    refine wp_region_lit ?_
    refine l_at hF rfl rfl rfl (x_assign rfl) ?_; clear hF; intro a hF
    have hH := hH.row0 4 FE 64
    refine wpList_nil ?_
    refine hK5 _ _ ?_
    refine wp_seq_k fun khK6 hK6 => ?_
    refine wp_seq_k fun khK7 hK7 => ?_
    refine wp_region_lit ?_
    refine l_at hF rfl rfl rfl (x_assign rfl) ?_; clear hF; intro a hF
    refine wpList_nil ?_
    refine hK7 _ _ ?_
    refine wp_block ?_
    refine wp_loop_ghost (fun n_ a w => ∃ k : Nat, ∃ v4 : Value, ∃ okv : Nat → Prop, n_ = xs.length - k ∧ (k ≤ xs.length) ∧ ((xs.take k).all rightS = true) ∧ Fr 75 a [(0, .slice A xs.length c), (4, v4), (5, .int .i64 (k : Int))] ∧ Hp (fun _ => False) w0 w [(901, .rd_ StE A xs c (fun k => k < w0.heap.size)), (4, .row FE 64 v4 ((xs.take k).map fldS) okv)]) (xs.length) ?_ ?_
    · exact ⟨0, .slice none 0 0, (fun _ => False), rfl, by omega, rfl, (((hF.bare.add hF 5 rfl).add hF 4 rfl).add hF 0 rfl), hH.sub _ (sub_cons (sub_cons (sub_nil _) 4 rfl) 901 rfl)⟩
    · rintro _ a w ⟨k, v4, okv, rfl, hq0_0, hq0_1, hF, hH⟩
      refine wp_seq_k fun khK8 hK8 => ?_
      refine wp_seq_k fun khK9 hK9 => ?_
      refine wp_region_lit ?_
      refine l_at hF rfl rfl rfl (x_move (hF.tmp 5 rfl)) ?_; clear hF; intro a hF
      refine l_at hF rfl rfl rfl (x_move (hF.tmp 0 rfl)) ?_; clear hF; intro a hF
      refine l_at hF rfl rfl rfl (x_len_slice Tryd.underlying28 (hF.tmp 14 rfl)) ?_; clear hF; intro a hF
      refine l_at hF rfl rfl rfl (x_lss (hF.tmp 13 rfl) (hF.tmp 15 rfl)) ?_; clear hF; intro a hF
      refine wpList_nil ?_
      refine hK9 _ _ ?_
      refine wp_cond_split (hF.tmp 16 rfl) (fun hc16 => ?_) (fun hc16 => ?_)
      · have hk16_3 := hc16; try simp only [Bool.or_eq_true, Bool.and_eq_true, Bool.or_eq_false_iff, Bool.and_eq_false_iff, Bool.not_eq_true', Bool.not_eq_false', decide_eq_true_eq, decide_eq_false_iff_not, Bool.not_true, Bool.not_false] at hc16
        refine wp_skip ?_
        refine hK8 _ _ ?_
        refine wp_seq_k fun khK10 hK10 => ?_
        refine wp_block ?_
        refine wp_seq_k fun khK11 hK11 => ?_
        refine wp_region_lit ?_
        obtain ⟨hf1_0, hf1_1, hf1_2, hf1_3, hfw1⟩ := rd_st ((hH.rd 901 rfl)) (gst_some (xs := xs) (i := (k : Int)) (by omega) (by omega))
        have hH := hH.subcels 901 rfl 1499 hfw1 (Rd.inok ((hH.rd 901 rfl)) (by omega) _)
        have hH := hH.subcel 901 rfl 1500 hf1_0 (Rd.inok ((hH.rd 901 rfl)) (by omega) _)
        have hH := hH.subcel 901 rfl 1501 hf1_1 (Rd.inok ((hH.rd 901 rfl)) (by omega) _)
        have hH := hH.subcel 901 rfl 1502 hf1_2 (Rd.inok ((hH.rd 901 rfl)) (by omega) _)
        have hH := hH.subcel 901 rfl 1503 hf1_3 (Rd.inok ((hH.rd 901 rfl)) (by omega) _)
        have hmem := gst_mem (xs := xs) (j := k) (by omega)
        refine l_at hF rfl rfl rfl (x_move (hF.tmp 0 rfl)) ?_; clear hF; intro a hF
        refine l_at hF rfl rfl rfl (x_move (hF.tmp 5 rfl)) ?_; clear hF; intro a hF
        refine l_at hF rfl rfl rfl (x_iaddr_A Tryd.underlying28 ty38 ((hH.rd 901 rfl)) (hF.tmp 19 rfl) (hF.tmp 20 rfl) (by omega) (by omega) _) ?_; clear hF; intro a hF
        refine l_at hF rfl rfl rfl (x_loadn ty38 (hF.tmp 21 rfl) rfl (hH.holds 1499 _ rfl)) ?_; clear hF; intro a hF
        refine wpList_plain rfl fun K hK => ?_
        refine w_call hF (x_enter Tryd.func20 (by kernel_rfl) rfl (by simp only [List.map_toArray, List.map_cons, List.map_nil, hF.tmp 22 rfl] <;> rfl)) (rright_calls _ (gst xs (k : Int))) rfl rfl ?_
        rintro _ w ⟨rfl, hm_⟩; refine ⟨_, rfl, ?_⟩; clear hF; intro a hF; have hH := hH.same hm_
        refine hK _ _ ?_; clear hK K
        refine l_at hF rfl rfl rfl (x_assign (hF.tmp 23 rfl)) ?_; clear hF; intro a hF
        refine wpList_nil ?_
        refine hK11 _ _ ?_
        refine wp_seq_k fun khK12 hK12 => ?_
        refine wp_seq_k fun khK13 hK13 => ?_
        refine wp_region_lit ?_
        refine l_at hF rfl rfl rfl (x_move (hF.tmp 6 rfl)) ?_; clear hF; intro a hF
        refine l_at hF rfl rfl rfl (x_not (hF.tmp 24 rfl)) ?_; clear hF; intro a hF
        refine wpList_nil ?_
        refine hK13 _ _ ?_
        refine wp_cond_split (hF.tmp 25 rfl) (fun hc25 => ?_) (fun hc25 => ?_)
        · have hk25_4 := hc25; try simp only [Bool.or_eq_true, Bool.and_eq_true, Bool.or_eq_false_iff, Bool.and_eq_false_iff, Bool.not_eq_true', Bool.not_eq_false', decide_eq_true_eq, decide_eq_false_iff_not, Bool.not_true, Bool.not_false] at hc25
          have hz := enc_bad hc12 (by omega) (by simpa using hc25)
          refine wp_seq_k fun khK14 hK14 => ?_
          refine wp_region_lit ?_
          refine l_at hF rfl rfl rfl (x_assign rfl) ?_; clear hF; intro a hF
          refine l_at hF rfl rfl rfl (x_assign rfl) ?_; clear hF; intro a hF
          refine wpList_nil ?_
          refine hK14 _ _ ?_
          refine wp_ret ?_
          try simp only [Exit.then, Exit.inBlock]
          have hz2 := encT_0 (xs := xs) (by rw [hz]; decide)
          exact fin_ret hF (res2 hF rfl rfl rfl) ⟨.slice none 0 0, by rw [hz] <;> rfl, hH.mods, by rw [hz2]; exact RowOut.nil _ _ _ _⟩
        · have hk25_5 := hc25; try simp only [Bool.or_eq_true, Bool.and_eq_true, Bool.or_eq_false_iff, Bool.and_eq_false_iff, Bool.not_eq_true', Bool.not_eq_false', decide_eq_true_eq, decide_eq_false_iff_not, Bool.not_true, Bool.not_false] at hc25
          have hcr : rightS (gst xs (k : Int)) = true := by simpa using hc25
          refine wp_skip ?_
          refine hK12 _ _ ?_
          refine wp_seq_k fun khK15 hK15 => ?_
          refine wp_region_lit ?_
          refine l_at hF rfl rfl rfl (x_move (hF.tmp 0 rfl)) ?_; clear hF; intro a hF
          refine l_at hF rfl rfl rfl (x_move (hF.tmp 5 rfl)) ?_; clear hF; intro a hF
          refine l_at hF rfl rfl rfl (x_iaddr_A Tryd.underlying28 ty38 ((hH.rd 901 rfl)) (hF.tmp 26 rfl) (hF.tmp 27 rfl) (by omega) (by omega) _) ?_; clear hF; intro a hF
          refine l_at hF rfl rfl rfl (x_faddrA ((hH.rd 901 rfl)) (by omega) _ Tryd.underlying38 rfl ty9 (by decide) (hF.tmp 28 rfl) rfl) ?_; clear hF; intro a hF
          refine l_at hF rfl rfl rfl (x_load1 ty9 (hF.tmp 29 rfl) (hH.holds 1502 _ rfl)) ?_; clear hF; intro a hF
          refine l_at hF rfl rfl rfl (x_assign (hF.tmp 30 rfl)) ?_; clear hF; intro a hF
          refine wpList_nil ?_
          refine hK15 _ _ ?_
          refine wp_seq_k fun khK16 hK16 => ?_
          refine wp_seq_k fun khK17 hK17 => ?_
          refine wp_region_lit ?_
          refine l_at hF rfl rfl rfl (x_move (hF.tmp 0 rfl)) ?_; clear hF; intro a hF
          refine l_at hF rfl rfl rfl (x_move (hF.tmp 5 rfl)) ?_; clear hF; intro a hF
          refine l_at hF rfl rfl rfl (x_iaddr_A Tryd.underlying28 ty38 ((hH.rd 901 rfl)) (hF.tmp 31 rfl) (hF.tmp 32 rfl) (by omega) (by omega) _) ?_; clear hF; intro a hF
          refine l_at hF rfl rfl rfl (x_faddrA ((hH.rd 901 rfl)) (by omega) _ Tryd.underlying38 rfl ty36 (by decide) (hF.tmp 33 rfl) rfl) ?_; clear hF; intro a hF
          refine l_at hF rfl rfl rfl (x_load1 ty36 (hF.tmp 34 rfl) (hH.holds 1500 _ rfl)) ?_; clear hF; intro a hF
          refine l_at hF rfl rfl rfl (x_eql (hF.tmp 35 rfl) rfl) ?_; clear hF; intro a hF
          refine wpList_nil ?_
          refine hK17 _ _ ?_
          refine wp_cond_split (hF.tmp 36 rfl) (fun hc36 => ?_) (fun hc36 => ?_)
          · have hk36_6 := hc36; try simp only [Bool.or_eq_true, Bool.and_eq_true, Bool.or_eq_false_iff, Bool.and_eq_false_iff, Bool.not_eq_true', Bool.not_eq_false', decide_eq_true_eq, decide_eq_false_iff_not, Bool.not_true, Bool.not_false] at hc36
            refine wp_region_lit ?_
            refine l_at hF rfl rfl rfl (x_move (hF.tmp 0 rfl)) ?_; clear hF; intro a hF
            refine l_at hF rfl rfl rfl (x_move (hF.tmp 5 rfl)) ?_; clear hF; intro a hF
            refine l_at hF rfl rfl rfl (x_iaddr_A Tryd.underlying28 ty38 ((hH.rd 901 rfl)) (hF.tmp 37 rfl) (hF.tmp 38 rfl) (by omega) (by omega) _) ?_; clear hF; intro a hF
            refine l_at hF rfl rfl rfl (x_faddrA ((hH.rd 901 rfl)) (by omega) _ Tryd.underlying38 rfl ty2 (by decide) (hF.tmp 39 rfl) rfl) ?_; clear hF; intro a hF
            refine l_at hF rfl rfl rfl (x_load1 ty2 (hF.tmp 40 rfl) (hH.holds 1503 _ rfl)) ?_; clear hF; intro a hF
            refine wpList_plain rfl fun K hK => ?_
            refine w_call hF (x_enter Tryd.func9 (by kernel_rfl) rfl (by simp only [List.map_toArray, List.map_cons, List.map_nil, hF.tmp 41 rfl] <;> rfl)) (text_calls _ (hbs _ hmem).2.2) rfl rfl ?_
            rintro _ w ⟨rfl, hm_⟩; refine ⟨_, rfl, ?_⟩; clear hF; intro a hF; have hH := hH.same hm_
            refine hK _ _ ?_; clear hK K
            refine l_at hF rfl rfl rfl (x_assign (hF.tmp 42 rfl)) ?_; clear hF; intro a hF
            refine wpList_nil ?_
            refine hK16 _ _ ?_
            refine r_start [(901, .rd_ StE A xs c (fun k => k < w0.heap.size)), (1499, .cels (adr A ((k : Int).toNat * 4)) #[.int .i64 (gst xs (k : Int)).1, .string (strOfNums (gst xs (k : Int)).2.1), .string (strOfNums (gst xs (k : Int)).2.2.1), .int .i64 (gst xs (k : Int)).2.2.2]), (1500, .cel (adr A ((k : Int).toNat * 4)) (.int .i64 (gst xs (k : Int)).1)), (1501, .cel (adr A ((k : Int).toNat * 4 + 1)) (.string (strOfNums (gst xs (k : Int)).2.1))), (1502, .cel (adr A ((k : Int).toNat * 4 + 2)) (.string (strOfNums (gst xs (k : Int)).2.2.1))), (1503, .cel (adr A ((k : Int).toNat * 4 + 3)) (.int .i64 (gst xs (k : Int)).2.2.2))] (by kernel_rfl) hH fun hH => ?_
            have hS : SL [(901, .rd_ StE A xs c (fun k => k < w0.heap.size)), (1499, .cels (adr A ((k : Int).toNat * 4)) #[.int .i64 (gst xs (k : Int)).1, .string (strOfNums (gst xs (k : Int)).2.1), .string (strOfNums (gst xs (k : Int)).2.2.1), .int .i64 (gst xs (k : Int)).2.2.2]), (1500, .cel (adr A ((k : Int).toNat * 4)) (.int .i64 (gst xs (k : Int)).1)), (1501, .cel (adr A ((k : Int).toNat * 4 + 1)) (.string (strOfNums (gst xs (k : Int)).2.1))), (1502, .cel (adr A ((k : Int).toNat * 4 + 2)) (.string (strOfNums (gst xs (k : Int)).2.2.1))), (1503, .cel (adr A ((k : Int).toNat * 4 + 3)) (.int .i64 (gst xs (k : Int)).2.2.2))] _ := SL.of hH (sub_cons (sub_cons (sub_cons (sub_cons (sub_cons (sub_cons (sub_nil _) 1503 rfl) 1502 rfl) 1501 rfl) 1500 rfl) 1499 rfl) 901 rfl)
            rw [restS_add hc36] at hF
            refine r_take 0 hF rfl rfl rfl (by kernel_rfl) (by kernel_rfl) (by kernel_rfl) (fun _ _ _ h => h) rfl hS (fun w hS => x_move (hF.tmp 4 rfl)) rfl ?_; clear hF; intro a hF
            refine r_take 1 hF rfl rfl rfl (by kernel_rfl) (by kernel_rfl) (by kernel_rfl) (fun _ _ _ h => h) rfl hS (fun w hS => x_move (hF.tmp 0 rfl)) rfl ?_; clear hF; intro a hF
            refine r_take 2 hF rfl rfl rfl (by kernel_rfl) (by kernel_rfl) (by kernel_rfl) (fun _ _ _ h => h) rfl hS (fun w hS => x_move (hF.tmp 5 rfl)) rfl ?_; clear hF; intro a hF
            refine r_take 3 hF rfl rfl rfl (by kernel_rfl) (by kernel_rfl) (by kernel_rfl) (fun _ _ _ h => h) rfl hS (fun w hS => x_iaddr_A Tryd.underlying28 ty38 ((hH.rd 901 rfl)) (hF.tmp 44 rfl) (hF.tmp 45 rfl) (by omega) (by omega) _) rfl ?_; clear hF; intro a hF
            refine r_take 4 hF rfl rfl rfl (by kernel_rfl) (by kernel_rfl) (by kernel_rfl) (fun _ _ _ h => h) rfl hS (fun w hS => x_faddrA ((SL.rd hS 901 rfl)) (by omega) _ Tryd.underlying38 rfl ty36 (by decide) (hF.tmp 46 rfl) rfl) rfl ?_; clear hF; intro a hF
            refine r_take 5 hF rfl rfl rfl (by kernel_rfl) (by kernel_rfl) (by kernel_rfl) (fun _ _ _ h => h) rfl hS (fun w hS => x_load1 ty36 (hF.tmp 47 rfl) (hS 1500 _ rfl)) rfl ?_; clear hF; intro a hF
            refine r_take 6 hF rfl rfl rfl (by kernel_rfl) (by kernel_rfl) (by kernel_rfl) (fun _ _ _ h => h) rfl hS (fun w hS => x_move (hF.tmp 0 rfl)) rfl ?_; clear hF; intro a hF
            refine r_take 7 hF rfl rfl rfl (by kernel_rfl) (by kernel_rfl) (by kernel_rfl) (fun _ _ _ h => h) rfl hS (fun w hS => x_move (hF.tmp 5 rfl)) rfl ?_; clear hF; intro a hF
            refine r_take 8 hF rfl rfl rfl (by kernel_rfl) (by kernel_rfl) (by kernel_rfl) (fun _ _ _ h => h) rfl hS (fun w hS => x_iaddr_A Tryd.underlying28 ty38 ((hH.rd 901 rfl)) (hF.tmp 49 rfl) (hF.tmp 50 rfl) (by omega) (by omega) _) rfl ?_; clear hF; intro a hF
            refine r_take 9 hF rfl rfl rfl (by kernel_rfl) (by kernel_rfl) (by kernel_rfl) (fun _ _ _ h => h) rfl hS (fun w hS => x_faddrA ((SL.rd hS 901 rfl)) (by omega) _ Tryd.underlying38 rfl ty9 (by decide) (hF.tmp 51 rfl) rfl) rfl ?_; clear hF; intro a hF
            refine r_take 10 hF rfl rfl rfl (by kernel_rfl) (by kernel_rfl) (by kernel_rfl) (fun _ _ _ h => h) rfl hS (fun w hS => x_load1 ty9 (hF.tmp 52 rfl) (hS 1501 _ rfl)) rfl ?_; clear hF; intro a hF
            refine r_take 11 hF rfl rfl rfl (by kernel_rfl) (by kernel_rfl) (by kernel_rfl) (fun _ _ _ h => h) rfl hS (fun w hS => x_len_sn (xs := ((gst xs (k : Int)).2.1)) Tryd.underlying9 (hF.tmp 53 rfl)) rfl ?_; clear hF; intro a hF
            refine r_take 12 hF rfl rfl rfl (by kernel_rfl) (by kernel_rfl) (by kernel_rfl) (fun _ _ _ h => h) rfl hS (fun w hS => x_conv Tryd.underlying5 ⟨_, Tryd.underlying3⟩ (hF.tmp 54 rfl) (key_wrap hcr)) rfl ?_; clear hF; intro a hF
            refine r_take 14 hF rfl rfl rfl (by kernel_rfl) (by kernel_rfl) (by kernel_rfl) (fun _ _ _ h => h) rfl hS (fun w hS => x_move (hF.tmp 0 rfl)) rfl ?_; clear hF; intro a hF
            refine r_take 15 hF rfl rfl rfl (by kernel_rfl) (by kernel_rfl) (by kernel_rfl) (fun _ _ _ h => h) rfl hS (fun w hS => x_move (hF.tmp 5 rfl)) rfl ?_; clear hF; intro a hF
            refine r_take 16 hF rfl rfl rfl (by kernel_rfl) (by kernel_rfl) (by kernel_rfl) (fun _ _ _ h => h) rfl hS (fun w hS => x_iaddr_A Tryd.underlying28 ty38 ((hH.rd 901 rfl)) (hF.tmp 57 rfl) (hF.tmp 58 rfl) (by omega) (by omega) _) rfl ?_; clear hF; intro a hF
            refine r_take 17 hF rfl rfl rfl (by kernel_rfl) (by kernel_rfl) (by kernel_rfl) (fun _ _ _ h => h) rfl hS (fun w hS => x_faddrA ((SL.rd hS 901 rfl)) (by omega) _ Tryd.underlying38 rfl ty9 (by decide) (hF.tmp 59 rfl) rfl) rfl ?_; clear hF; intro a hF
            refine r_take 18 hF rfl rfl rfl (by kernel_rfl) (by kernel_rfl) (by kernel_rfl) (fun _ _ _ h => h) rfl hS (fun w hS => x_load1 ty9 (hF.tmp 60 rfl) (hS 1501 _ rfl)) rfl ?_; clear hF; intro a hF
            refine r_take 19 hF rfl rfl rfl (by kernel_rfl) (by kernel_rfl) (by kernel_rfl) (fun _ _ _ h => h) rfl hS (fun w hS => x_move (hF.tmp 7 rfl)) rfl ?_; clear hF; intro a hF
            refine r_take 20 hF rfl rfl rfl (by kernel_rfl) (by kernel_rfl) (by kernel_rfl) (fun _ _ _ h => h) rfl hS (fun w hS => x_adds (xs := ((gst xs (k : Int)).2.1)) (ys := (restS (gst xs (k : Int)))) (hF.tmp 61 rfl) (hF.tmp 62 rfl) (by have := key_len hcr; have := restS_len hcr (hbs _ hmem); omega)) rfl ?_; clear hF; intro a hF
            refine r_do2 13 21 rfl rfl (by kernel_rfl) rfl rfl rfl rfl ?_ ?_
            ·
              refine w_lit 40 (enc := Value.int .u8) (h1 := fun _ => rfl) ([((gst xs (k : Int)).2.1.length : Int)]) hF hH rfl Tryd.underlying29 ty5 (by simp only [List.map_toArray, List.map_cons, List.map_nil, hF.tmp 55 rfl]; rfl) rfl (by decide) (by decide) (by kernel_rfl) ?_
              clear hF hH; intro a w b56 hF hH
              clear hS; have hS : SL _ _ := SL.of hH (sub_cons (sub_cons (sub_cons (sub_cons (sub_cons (sub_cons (sub_nil _) 1503 rfl) 1502 rfl) 1501 rfl) 1500 rfl) 1499 rfl) 901 rfl); refine ⟨hS, ?_⟩
              refine r_do 21 rfl (by kernel_rfl) rfl rfl ?_
              refine w_s2b 64 (xs := (((gst xs (k : Int)).2.1) ++ (restS (gst xs (k : Int))))) hF hH rfl Tryd.underlying9 Tryd.underlying29 Tryd.underlying5 (hF.tmp 63 rfl) ((hbs _ hmem).1.app (restS_byte (hbs _ hmem))) (by have := key_len hcr; have := restS_len hcr (hbs _ hmem); simp only [List.length_append]; omega) ?_
              clear hF hH; intro a w b64 c64 hb64_ hF hH
              clear hS; have hS : SL _ _ := SL.of hH (sub_cons (sub_cons (sub_cons (sub_cons (sub_cons (sub_cons (sub_nil _) 1503 rfl) 1502 rfl) 1501 rfl) 1500 rfl) 1499 rfl) 901 rfl); refine ⟨hS, ?_⟩
              refine r_do 22 rfl (by kernel_rfl) rfl rfl ?_
              refine w_append 40 64 (xs := ([((gst xs (k : Int)).2.1.length : Int)])) (ys := (((gst xs (k : Int)).2.1) ++ (restS (gst xs (k : Int))))) hF hH rfl Tryd.underlying29 ty5 rfl rfl rfl rfl ((hH.rd 64 rfl)) (by intro k_ hk_; exact .inr hk_) (hF.tmp 56 rfl) (hF.tmp 64 rfl) (by have := key_len hcr; have := restS_len hcr (hbs _ hmem); simp only [List.length_cons, List.length_nil, List.length_append]; omega) (by have := key_len hcr; have := restS_len hcr (hbs _ hmem); simp only [List.length_cons, List.length_nil, List.length_append, maxLen]; omega) (fun _ => False) (fun w' v' h => row_flat h _) (fun k_ hk_ => hk_.elim) ?_
              clear hF hH; intro a w v65 hF hH
              clear hS; have hS : SL _ _ := SL.of hH (sub_cons (sub_cons (sub_cons (sub_cons (sub_cons (sub_cons (sub_nil _) 1503 rfl) 1502 rfl) 1501 rfl) 1500 rfl) 1499 rfl) 901 rfl); refine ⟨hS, ?_⟩
              obtain ⟨A65, c65, rfl⟩ := (hH.row 40 rfl).form
              have hH := hH.freeze 40 rfl (fun kb => (Value.slice A65 (([((gst xs (k : Int)).2.1.length : Int)]) ++ (((gst xs (k : Int)).2.1) ++ (restS (gst xs (k : Int))))).length c65).ownBlock = some kb) (fun kb => ⟨fun h => .inr h, fun h => h.resolve_left id⟩)
              refine r_take 23 hF rfl rfl rfl (by kernel_rfl) (by kernel_rfl) (by kernel_rfl) (fun _ _ _ h => h) rfl hS (fun w hS => x_buildS (cells := #[.int .i64 (gst xs (k : Int)).1, .slice A65 (([((gst xs (k : Int)).2.1.length : Int)]) ++ (((gst xs (k : Int)).2.1) ++ (restS (gst xs (k : Int))))).length c65]) (places := #[(0, 1), (1, 1)]) Tryd.underlying64 ty64 (by kernel_rfl) (by simp only [List.map_toArray, List.map_cons, List.map_nil, hF.tmp 48 rfl, hF.tmp 65 rfl] <;> rfl) rfl) rfl ?_; clear hF; intro a hF
              refine r_do 24 rfl (by kernel_rfl) rfl rfl ?_
              refine w_lit1 67 FE (((gst xs (k : Int)).1, (([((gst xs (k : Int)).2.1.length : Int)]) ++ (((gst xs (k : Int)).2.1) ++ (restS (gst xs (k : Int)))))) : Fld) #[.int .i64 ((gst xs (k : Int)).1), .slice A65 (([((gst xs (k : Int)).2.1.length : Int)]) ++ (((gst xs (k : Int)).2.1) ++ (restS (gst xs (k : Int))))).length c65] (fun kb => (Value.slice A65 (([((gst xs (k : Int)).2.1.length : Int)]) ++ (((gst xs (k : Int)).2.1) ++ (restS (gst xs (k : Int))))).length c65).ownBlock = some kb) hF hH rfl Tryd.underlying62 ty64 (by simp only [List.map_toArray, List.map_cons, List.map_nil, hF.tmp 66 rfl] <;> rfl) (by decide) (by kernel_rfl) (fld_mk (f := (((gst xs (k : Int)).1, (([((gst xs (k : Int)).2.1.length : Int)]) ++ (((gst xs (k : Int)).2.1) ++ (restS (gst xs (k : Int)))))) : Fld)) ((hH.rd 40 rfl))) (fun kb hk => ⟨40, _, rfl, hk⟩) ?_
              clear hF hH; intro a w b67 hF hb67_ hH
              clear hS; have hS : SL _ _ := SL.of hH (sub_cons (sub_cons (sub_cons (sub_cons (sub_cons (sub_cons (sub_nil _) 1503 rfl) 1502 rfl) 1501 rfl) 1500 rfl) 1499 rfl) 901 rfl); refine ⟨hS, ?_⟩
              refine r_do 25 rfl (by kernel_rfl) rfl rfl ?_
              refine w_append 4 67 (xs := ((xs.take k).map fldS)) (ys := ([(((gst xs (k : Int)).1, (([((gst xs (k : Int)).2.1.length : Int)]) ++ (((gst xs (k : Int)).2.1) ++ (restS (gst xs (k : Int)))))) : Fld)])) hF hH rfl Tryd.underlying62 ty64 rfl rfl rfl rfl ((hH.rd 67 rfl)) (by intro k_ hk_; exact .inr hk_) (hF.tmp 43 rfl) (hF.tmp 67 rfl) (by simp only [List.length_append, List.length_nil, List.length_cons, List.length_map, List.length_take] at *; omega) (by simp only [List.length_append, List.length_nil, List.length_cons, List.length_map, List.length_take, maxLen] at *; omega) (fun kb => okv kb ∨ (fun kb => (fun kb => (Value.slice A65 (([((gst xs (k : Int)).2.1.length : Int)]) ++ (((gst xs (k : Int)).2.1) ++ (restS (gst xs (k : Int))))).length c65).ownBlock = some kb) kb ∨ kb = b67) kb) (fun w' v' h => h) (by rintro k_ (hk_ | hk_); exact .inl hk_; exact .inr hk_) ?_
              clear hF hH; intro a w v68 hF hH
              clear hS; have hS : SL _ _ := SL.of hH (sub_cons (sub_cons (sub_cons (sub_cons (sub_cons (sub_cons (sub_nil _) 1503 rfl) 1502 rfl) 1501 rfl) 1500 rfl) 1499 rfl) 901 rfl); refine ⟨hS, ?_⟩
              refine r_take 26 hF rfl rfl rfl (by kernel_rfl) (by kernel_rfl) (by kernel_rfl) (fun _ _ _ h => h) rfl hS (fun w hS => x_assign (hF.tmp 68 rfl)) rfl ?_; clear hF; intro a hF
              refine r_end (by kernel_rfl) ?_; clear hS
              refine hK10 _ _ ?_
              refine wp_region_lit ?_
              refine l_at hF rfl rfl rfl (x_move (hF.tmp 5 rfl)) ?_; clear hF; intro a hF
              refine l_at hF rfl rfl rfl (x_add (hF.tmp 17 rfl) rfl (w64 (by omega) (by omega))) ?_; clear hF; intro a hF
              refine l_at hF rfl rfl rfl (x_assign (hF.tmp 18 rfl)) ?_; clear hF; intro a hF
              refine wpList_nil ?_
              have hHs : Hp (fun _ => False) w0 w [(901, .rd_ StE A xs c (fun k => k < w0.heap.size)), (4, .row FE 64 v68 (((xs.take k).map fldS) ++ [(((gst xs (k : Int)).1, ([(((gst xs (k : Int)).2.1.length : Int))] ++ ((gst xs (k : Int)).2.1 ++ restS (gst xs (k : Int))))) : Fld)]) (fun kb => okv kb ∨ (fun kb => (fun kb => (Value.slice A65 (([((gst xs (k : Int)).2.1.length : Int)]) ++ (((gst xs (k : Int)).2.1) ++ (restS (gst xs (k : Int))))).length c65).ownBlock = some kb) kb ∨ kb = b67) kb))] := hH.sub _ (sub_cons (sub_cons (sub_nil _) 4 rfl) 901 rfl)
              rw [show ((xs.take k).map fldS) ++ [(((gst xs (k : Int)).1, ([(((gst xs (k : Int)).2.1.length : Int))] ++ ((gst xs (k : Int)).2.1 ++ restS (gst xs (k : Int))))) : Fld)] = (xs.take (k + 1)).map fldS from fld_stepL hc16] at hHs
              exact ⟨_, by omega, ⟨k + 1, v68, (fun kb => okv kb ∨ (fun kb => (fun kb => (Value.slice A65 (([((gst xs (k : Int)).2.1.length : Int)]) ++ (((gst xs (k : Int)).2.1) ++ (restS (gst xs (k : Int))))).length c65).ownBlock = some kb) kb ∨ kb = b67) kb), rfl, by omega, right_step hc16 hq0_1 hcr, (((hF.bare.add hF 5 rfl).add hF 4 rfl).add hF 0 rfl), hHs⟩⟩
            ·
              refine w_s2b 64 (xs := (((gst xs (k : Int)).2.1) ++ (restS (gst xs (k : Int))))) hF hH rfl Tryd.underlying9 Tryd.underlying29 Tryd.underlying5 (hF.tmp 63 rfl) ((hbs _ hmem).1.app (restS_byte (hbs _ hmem))) (by have := key_len hcr; have := restS_len hcr (hbs _ hmem); simp only [List.length_append]; omega) ?_
              clear hF hH; intro a w b64 c64 hb64_ hF hH
              clear hS; have hS : SL _ _ := SL.of hH (sub_cons (sub_cons (sub_cons (sub_cons (sub_cons (sub_cons (sub_nil _) 1503 rfl) 1502 rfl) 1501 rfl) 1500 rfl) 1499 rfl) 901 rfl); refine ⟨hS, ?_⟩
              refine r_do 13 rfl (by kernel_rfl) rfl rfl ?_
              refine w_lit 40 (enc := Value.int .u8) (h1 := fun _ => rfl) ([((gst xs (k : Int)).2.1.length : Int)]) hF hH rfl Tryd.underlying29 ty5 (by simp only [List.map_toArray, List.map_cons, List.map_nil, hF.tmp 55 rfl]; rfl) rfl (by decide) (by decide) (by kernel_rfl) ?_
              clear hF hH; intro a w b56 hF hH
              clear hS; have hS : SL _ _ := SL.of hH (sub_cons (sub_cons (sub_cons (sub_cons (sub_cons (sub_cons (sub_nil _) 1503 rfl) 1502 rfl) 1501 rfl) 1500 rfl) 1499 rfl) 901 rfl); refine ⟨hS, ?_⟩
              refine r_do 22 rfl (by kernel_rfl) rfl rfl ?_
              refine w_append 40 64 (xs := ([((gst xs (k : Int)).2.1.length : Int)])) (ys := (((gst xs (k : Int)).2.1) ++ (restS (gst xs (k : Int))))) hF hH rfl Tryd.underlying29 ty5 rfl rfl rfl rfl ((hH.rd 64 rfl)) (by intro k_ hk_; exact .inr hk_) (hF.tmp 56 rfl) (hF.tmp 64 rfl) (by have := key_len hcr; have := restS_len hcr (hbs _ hmem); simp only [List.length_cons, List.length_nil, List.length_append]; omega) (by have := key_len hcr; have := restS_len hcr (hbs _ hmem); simp only [List.length_cons, List.length_nil, List.length_append, maxLen]; omega) (fun _ => False) (fun w' v' h => row_flat h _) (fun k_ hk_ => hk_.elim) ?_
              clear hF hH; intro a w v65 hF hH
              clear hS; have hS : SL _ _ := SL.of hH (sub_cons (sub_cons (sub_cons (sub_cons (sub_cons (sub_cons (sub_nil _) 1503 rfl) 1502 rfl) 1501 rfl) 1500 rfl) 1499 rfl) 901 rfl); refine ⟨hS, ?_⟩
              obtain ⟨A65, c65, rfl⟩ := (hH.row 40 rfl).form
              have hH := hH.freeze 40 rfl (fun kb => (Value.slice A65 (([((gst xs (k : Int)).2.1.length : Int)]) ++ (((gst xs (k : Int)).2.1) ++ (restS (gst xs (k : Int))))).length c65).ownBlock = some kb) (fun kb => ⟨fun h => .inr h, fun h => h.resolve_left id⟩)
              refine r_take 23 hF rfl rfl rfl (by kernel_rfl) (by kernel_rfl) (by kernel_rfl) (fun _ _ _ h => h) rfl hS (fun w hS => x_buildS (cells := #[.int .i64 (gst xs (k : Int)).1, .slice A65 (([((gst xs (k : Int)).2.1.length : Int)]) ++ (((gst xs (k : Int)).2.1) ++ (restS (gst xs (k : Int))))).length c65]) (places := #[(0, 1), (1, 1)]) Tryd.underlying64 ty64 (by kernel_rfl) (by simp only [List.map_toArray, List.map_cons, List.map_nil, hF.tmp 48 rfl, hF.tmp 65 rfl] <;> rfl) rfl) rfl ?_; clear hF; intro a hF
              refine r_do 24 rfl (by kernel_rfl) rfl rfl ?_
              refine w_lit1 67 FE (((gst xs (k : Int)).1, (([((gst xs (k : Int)).2.1.length : Int)]) ++ (((gst xs (k : Int)).2.1) ++ (restS (gst xs (k : Int)))))) : Fld) #[.int .i64 ((gst xs (k : Int)).1), .slice A65 (([((gst xs (k : Int)).2.1.length : Int)]) ++ (((gst xs (k : Int)).2.1) ++ (restS (gst xs (k : Int))))).length c65] (fun kb => (Value.slice A65 (([((gst xs (k : Int)).2.1.length : Int)]) ++ (((gst xs (k : Int)).2.1) ++ (restS (gst xs (k : Int))))).length c65).ownBlock = some kb) hF hH rfl Tryd.underlying62 ty64 (by simp only [List.map_toArray, List.map_cons, List.map_nil, hF.tmp 66 rfl] <;> rfl) (by decide) (by kernel_rfl) (fld_mk (f := (((gst xs (k : Int)).1, (([((gst xs (k : Int)).2.1.length : Int)]) ++ (((gst xs (k : Int)).2.1) ++ (restS (gst xs (k : Int)))))) : Fld)) ((hH.rd 40 rfl))) (fun kb hk => ⟨40, _, rfl, hk⟩) ?_
              clear hF hH; intro a w b67 hF hb67_ hH
              clear hS; have hS : SL _ _ := SL.of hH (sub_cons (sub_cons (sub_cons (sub_cons (sub_cons (sub_cons (sub_nil _) 1503 rfl) 1502 rfl) 1501 rfl) 1500 rfl) 1499 rfl) 901 rfl); refine ⟨hS, ?_⟩
              refine r_do 25 rfl (by kernel_rfl) rfl rfl ?_
              refine w_append 4 67 (xs := ((xs.take k).map fldS)) (ys := ([(((gst xs (k : Int)).1, (([((gst xs (k : Int)).2.1.length : Int)]) ++ (((gst xs (k : Int)).2.1) ++ (restS (gst xs (k : Int)))))) : Fld)])) hF hH rfl Tryd.underlying62 ty64 rfl rfl rfl rfl ((hH.rd 67 rfl)) (by intro k_ hk_; exact .inr hk_) (hF.tmp 43 rfl) (hF.tmp 67 rfl) (by simp only [List.length_append, List.length_nil, List.length_cons, List.length_map, List.length_take] at *; omega) (by simp only [List.length_append, List.length_nil, List.length_cons, List.length_map, List.length_take, maxLen] at *; omega) (fun kb => okv kb ∨ (fun kb => (fun kb => (Value.slice A65 (([((gst xs (k : Int)).2.1.length : Int)]) ++ (((gst xs (k : Int)).2.1) ++ (restS (gst xs (k : Int))))).length c65).ownBlock = some kb) kb ∨ kb = b67) kb) (fun w' v' h => h) (by rintro k_ (hk_ | hk_); exact .inl hk_; exact .inr hk_) ?_
              clear hF hH; intro a w v68 hF hH
              clear hS; have hS : SL _ _ := SL.of hH (sub_cons (sub_cons (sub_cons (sub_cons (sub_cons (sub_cons (sub_nil _) 1503 rfl) 1502 rfl) 1501 rfl) 1500 rfl) 1499 rfl) 901 rfl); refine ⟨hS, ?_⟩
              refine r_take 26 hF rfl rfl rfl (by kernel_rfl) (by kernel_rfl) (by kernel_rfl) (fun _ _ _ h => h) rfl hS (fun w hS => x_assign (hF.tmp 68 rfl)) rfl ?_; clear hF; intro a hF
              refine r_end (by kernel_rfl) ?_; clear hS
              refine hK10 _ _ ?_
              refine wp_region_lit ?_
              refine l_at hF rfl rfl rfl (x_move (hF.tmp 5 rfl)) ?_; clear hF; intro a hF
              refine l_at hF rfl rfl rfl (x_add (hF.tmp 17 rfl) rfl (w64 (by omega) (by omega))) ?_; clear hF; intro a hF
              refine l_at hF rfl rfl rfl (x_assign (hF.tmp 18 rfl)) ?_; clear hF; intro a hF
              refine wpList_nil ?_
              have hHs : Hp (fun _ => False) w0 w [(901, .rd_ StE A xs c (fun k => k < w0.heap.size)), (4, .row FE 64 v68 (((xs.take k).map fldS) ++ [(((gst xs (k : Int)).1, ([(((gst xs (k : Int)).2.1.length : Int))] ++ ((gst xs (k : Int)).2.1 ++ restS (gst xs (k : Int))))) : Fld)]) (fun kb => okv kb ∨ (fun kb => (fun kb => (Value.slice A65 (([((gst xs (k : Int)).2.1.length : Int)]) ++ (((gst xs (k : Int)).2.1) ++ (restS (gst xs (k : Int))))).length c65).ownBlock = some kb) kb ∨ kb = b67) kb))] := hH.sub _ (sub_cons (sub_cons (sub_nil _) 4 rfl) 901 rfl)
              rw [show ((xs.take k).map fldS) ++ [(((gst xs (k : Int)).1, ([(((gst xs (k : Int)).2.1.length : Int))] ++ ((gst xs (k : Int)).2.1 ++ restS (gst xs (k : Int))))) : Fld)] = (xs.take (k + 1)).map fldS from fld_stepL hc16] at hHs
              exact ⟨_, by omega, ⟨k + 1, v68, (fun kb => okv kb ∨ (fun kb => (fun kb => (Value.slice A65 (([((gst xs (k : Int)).2.1.length : Int)]) ++ (((gst xs (k : Int)).2.1) ++ (restS (gst xs (k : Int))))).length c65).ownBlock = some kb) kb ∨ kb = b67) kb), rfl, by omega, right_step hc16 hq0_1 hcr, (((hF.bare.add hF 5 rfl).add hF 4 rfl).add hF 0 rfl), hHs⟩⟩
          · have hk36_7 := hc36; try simp only [Bool.or_eq_true, Bool.and_eq_true, Bool.or_eq_false_iff, Bool.and_eq_false_iff, Bool.not_eq_true', Bool.not_eq_false', decide_eq_true_eq, decide_eq_false_iff_not, Bool.not_true, Bool.not_false] at hc36
            refine wp_skip ?_
            refine hK16 _ _ ?_
            refine r_start [(901, .rd_ StE A xs c (fun k => k < w0.heap.size)), (1499, .cels (adr A ((k : Int).toNat * 4)) #[.int .i64 (gst xs (k : Int)).1, .string (strOfNums (gst xs (k : Int)).2.1), .string (strOfNums (gst xs (k : Int)).2.2.1), .int .i64 (gst xs (k : Int)).2.2.2]), (1500, .cel (adr A ((k : Int).toNat * 4)) (.int .i64 (gst xs (k : Int)).1)), (1501, .cel (adr A ((k : Int).toNat * 4 + 1)) (.string (strOfNums (gst xs (k : Int)).2.1))), (1502, .cel (adr A ((k : Int).toNat * 4 + 2)) (.string (strOfNums (gst xs (k : Int)).2.2.1))), (1503, .cel (adr A ((k : Int).toNat * 4 + 3)) (.int .i64 (gst xs (k : Int)).2.2.2))] (by kernel_rfl) hH fun hH => ?_
            have hS : SL [(901, .rd_ StE A xs c (fun k => k < w0.heap.size)), (1499, .cels (adr A ((k : Int).toNat * 4)) #[.int .i64 (gst xs (k : Int)).1, .string (strOfNums (gst xs (k : Int)).2.1), .string (strOfNums (gst xs (k : Int)).2.2.1), .int .i64 (gst xs (k : Int)).2.2.2]), (1500, .cel (adr A ((k : Int).toNat * 4)) (.int .i64 (gst xs (k : Int)).1)), (1501, .cel (adr A ((k : Int).toNat * 4 + 1)) (.string (strOfNums (gst xs (k : Int)).2.1))), (1502, .cel (adr A ((k : Int).toNat * 4 + 2)) (.string (strOfNums (gst xs (k : Int)).2.2.1))), (1503, .cel (adr A ((k : Int).toNat * 4 + 3)) (.int .i64 (gst xs (k : Int)).2.2.2))] _ := SL.of hH (sub_cons (sub_cons (sub_cons (sub_cons (sub_cons (sub_cons (sub_nil _) 1503 rfl) 1502 rfl) 1501 rfl) 1500 rfl) 1499 rfl) 901 rfl)
            rw [restS_val hc36] at hF
            refine r_take 0 hF rfl rfl rfl (by kernel_rfl) (by kernel_rfl) (by kernel_rfl) (fun _ _ _ h => h) rfl hS (fun w hS => x_move (hF.tmp 4 rfl)) rfl ?_; clear hF; intro a hF
            refine r_take 1 hF rfl rfl rfl (by kernel_rfl) (by kernel_rfl) (by kernel_rfl) (fun _ _ _ h => h) rfl hS (fun w hS => x_move (hF.tmp 0 rfl)) rfl ?_; clear hF; intro a hF
            refine r_take 2 hF rfl rfl rfl (by kernel_rfl) (by kernel_rfl) (by kernel_rfl) (fun _ _ _ h => h) rfl hS (fun w hS => x_move (hF.tmp 5 rfl)) rfl ?_; clear hF; intro a hF
            refine r_take 3 hF rfl rfl rfl (by kernel_rfl) (by kernel_rfl) (by kernel_rfl) (fun _ _ _ h => h) rfl hS (fun w hS => x_iaddr_A Tryd.underlying28 ty38 ((hH.rd 901 rfl)) (hF.tmp 44 rfl) (hF.tmp 45 rfl) (by omega) (by omega) _) rfl ?_; clear hF; intro a hF
            refine r_take 4 hF rfl rfl rfl (by kernel_rfl) (by kernel_rfl) (by kernel_rfl) (fun _ _ _ h => h) rfl hS (fun w hS => x_faddrA ((SL.rd hS 901 rfl)) (by omega) _ Tryd.underlying38 rfl ty36 (by decide) (hF.tmp 46 rfl) rfl) rfl ?_; clear hF; intro a hF
            refine r_take 5 hF rfl rfl rfl (by kernel_rfl) (by kernel_rfl) (by kernel_rfl) (fun _ _ _ h => h) rfl hS (fun w hS => x_load1 ty36 (hF.tmp 47 rfl) (hS 1500 _ rfl)) rfl ?_; clear hF; intro a hF
            refine r_take 6 hF rfl rfl rfl (by kernel_rfl) (by kernel_rfl) (by kernel_rfl) (fun _ _ _ h => h) rfl hS (fun w hS => x_move (hF.tmp 0 rfl)) rfl ?_; clear hF; intro a hF
            refine r_take 7 hF rfl rfl rfl (by kernel_rfl) (by kernel_rfl) (by kernel_rfl) (fun _ _ _ h => h) rfl hS (fun w hS => x_move (hF.tmp 5 rfl)) rfl ?_; clear hF; intro a hF
            refine r_take 8 hF rfl rfl rfl (by kernel_rfl) (by kernel_rfl) (by kernel_rfl) (fun _ _ _ h => h) rfl hS (fun w hS => x_iaddr_A Tryd.underlying28 ty38 ((hH.rd 901 rfl)) (hF.tmp 49 rfl) (hF.tmp 50 rfl) (by omega) (by omega) _) rfl ?_; clear hF; intro a hF
            refine r_take 9 hF rfl rfl rfl (by kernel_rfl) (by kernel_rfl) (by kernel_rfl) (fun _ _ _ h => h) rfl hS (fun w hS => x_faddrA ((SL.rd hS 901 rfl)) (by omega) _ Tryd.underlying38 rfl ty9 (by decide) (hF.tmp 51 rfl) rfl) rfl ?_; clear hF; intro a hF
            refine r_take 10 hF rfl rfl rfl (by kernel_rfl) (by kernel_rfl) (by kernel_rfl) (fun _ _ _ h => h) rfl hS (fun w hS => x_load1 ty9 (hF.tmp 52 rfl) (hS 1501 _ rfl)) rfl ?_; clear hF; intro a hF
            refine r_take 11 hF rfl rfl rfl (by kernel_rfl) (by kernel_rfl) (by kernel_rfl) (fun _ _ _ h => h) rfl hS (fun w hS => x_len_sn (xs := ((gst xs (k : Int)).2.1)) Tryd.underlying9 (hF.tmp 53 rfl)) rfl ?_; clear hF; intro a hF
            refine r_take 12 hF rfl rfl rfl (by kernel_rfl) (by kernel_rfl) (by kernel_rfl) (fun _ _ _ h => h) rfl hS (fun w hS => x_conv Tryd.underlying5 ⟨_, Tryd.underlying3⟩ (hF.tmp 54 rfl) (key_wrap hcr)) rfl ?_; clear hF; intro a hF
            refine r_take 14 hF rfl rfl rfl (by kernel_rfl) (by kernel_rfl) (by kernel_rfl) (fun _ _ _ h => h) rfl hS (fun w hS => x_move (hF.tmp 0 rfl)) rfl ?_; clear hF; intro a hF
            refine r_take 15 hF rfl rfl rfl (by kernel_rfl) (by kernel_rfl) (by kernel_rfl) (fun _ _ _ h => h) rfl hS (fun w hS => x_move (hF.tmp 5 rfl)) rfl ?_; clear hF; intro a hF
            refine r_take 16 hF rfl rfl rfl (by kernel_rfl) (by kernel_rfl) (by kernel_rfl) (fun _ _ _ h => h) rfl hS (fun w hS => x_iaddr_A Tryd.underlying28 ty38 ((hH.rd 901 rfl)) (hF.tmp 57 rfl) (hF.tmp 58 rfl) (by omega) (by omega) _) rfl ?_; clear hF; intro a hF
            refine r_take 17 hF rfl rfl rfl (by kernel_rfl) (by kernel_rfl) (by kernel_rfl) (fun _ _ _ h => h) rfl hS (fun w hS => x_faddrA ((SL.rd hS 901 rfl)) (by omega) _ Tryd.underlying38 rfl ty9 (by decide) (hF.tmp 59 rfl) rfl) rfl ?_; clear hF; intro a hF
            refine r_take 18 hF rfl rfl rfl (by kernel_rfl) (by kernel_rfl) (by kernel_rfl) (fun _ _ _ h => h) rfl hS (fun w hS => x_load1 ty9 (hF.tmp 60 rfl) (hS 1501 _ rfl)) rfl ?_; clear hF; intro a hF
            refine r_take 19 hF rfl rfl rfl (by kernel_rfl) (by kernel_rfl) (by kernel_rfl) (fun _ _ _ h => h) rfl hS (fun w hS => x_move (hF.tmp 7 rfl)) rfl ?_; clear hF; intro a hF
            refine r_take 20 hF rfl rfl rfl (by kernel_rfl) (by kernel_rfl) (by kernel_rfl) (fun _ _ _ h => h) rfl hS (fun w hS => x_adds (xs := ((gst xs (k : Int)).2.1)) (ys := (restS (gst xs (k : Int)))) (hF.tmp 61 rfl) (hF.tmp 62 rfl) (by have := key_len hcr; have := restS_len hcr (hbs _ hmem); omega)) rfl ?_; clear hF; intro a hF
            refine r_do2 13 21 rfl rfl (by kernel_rfl) rfl rfl rfl rfl ?_ ?_
            ·
              refine w_lit 40 (enc := Value.int .u8) (h1 := fun _ => rfl) ([((gst xs (k : Int)).2.1.length : Int)]) hF hH rfl Tryd.underlying29 ty5 (by simp only [List.map_toArray, List.map_cons, List.map_nil, hF.tmp 55 rfl]; rfl) rfl (by decide) (by decide) (by kernel_rfl) ?_
              clear hF hH; intro a w b56 hF hH
              clear hS; have hS : SL _ _ := SL.of hH (sub_cons (sub_cons (sub_cons (sub_cons (sub_cons (sub_cons (sub_nil _) 1503 rfl) 1502 rfl) 1501 rfl) 1500 rfl) 1499 rfl) 901 rfl); refine ⟨hS, ?_⟩
              refine r_do 21 rfl (by kernel_rfl) rfl rfl ?_
              refine w_s2b 64 (xs := (((gst xs (k : Int)).2.1) ++ (restS (gst xs (k : Int))))) hF hH rfl Tryd.underlying9 Tryd.underlying29 Tryd.underlying5 (hF.tmp 63 rfl) ((hbs _ hmem).1.app (restS_byte (hbs _ hmem))) (by have := key_len hcr; have := restS_len hcr (hbs _ hmem); simp only [List.length_append]; omega) ?_
              clear hF hH; intro a w b64 c64 hb64_ hF hH
              clear hS; have hS : SL _ _ := SL.of hH (sub_cons (sub_cons (sub_cons (sub_cons (sub_cons (sub_cons (sub_nil _) 1503 rfl) 1502 rfl) 1501 rfl) 1500 rfl) 1499 rfl) 901 rfl); refine ⟨hS, ?_⟩
              refine r_do 22 rfl (by kernel_rfl) rfl rfl ?_
              refine w_append 40 64 (xs := ([((gst xs (k : Int)).2.1.length : Int)])) (ys := (((gst xs (k : Int)).2.1) ++ (restS (gst xs (k : Int))))) hF hH rfl Tryd.underlying29 ty5 rfl rfl rfl rfl ((hH.rd 64 rfl)) (by intro k_ hk_; exact .inr hk_) (hF.tmp 56 rfl) (hF.tmp 64 rfl) (by have := key_len hcr; have := restS_len hcr (hbs _ hmem); simp only [List.length_cons, List.length_nil, List.length_append]; omega) (by have := key_len hcr; have := restS_len hcr (hbs _ hmem); simp only [List.length_cons, List.length_nil, List.length_append, maxLen]; omega) (fun _ => False) (fun w' v' h => row_flat h _) (fun k_ hk_ => hk_.elim) ?_
              clear hF hH; intro a w v65 hF hH
              clear hS; have hS : SL _ _ := SL.of hH (sub_cons (sub_cons (sub_cons (sub_cons (sub_cons (sub_cons (sub_nil _) 1503 rfl) 1502 rfl) 1501 rfl) 1500 rfl) 1499 rfl) 901 rfl); refine ⟨hS, ?_⟩
              obtain ⟨A65, c65, rfl⟩ := (hH.row 40 rfl).form
              have hH := hH.freeze 40 rfl (fun kb => (Value.slice A65 (([((gst xs (k : Int)).2.1.length : Int)]) ++ (((gst xs (k : Int)).2.1) ++ (restS (gst xs (k : Int))))).length c65).ownBlock = some kb) (fun kb => ⟨fun h => .inr h, fun h => h.resolve_left id⟩)
              refine r_take 23 hF rfl rfl rfl (by kernel_rfl) (by kernel_rfl) (by kernel_rfl) (fun _ _ _ h => h) rfl hS (fun w hS => x_buildS (cells := #[.int .i64 (gst xs (k : Int)).1, .slice A65 (([((gst xs (k : Int)).2.1.length : Int)]) ++ (((gst xs (k : Int)).2.1) ++ (restS (gst xs (k : Int))))).length c65]) (places := #[(0, 1), (1, 1)]) Tryd.underlying64 ty64 (by kernel_rfl) (by simp only [List.map_toArray, List.map_cons, List.map_nil, hF.tmp 48 rfl, hF.tmp 65 rfl] <;> rfl) rfl) rfl ?_; clear hF; intro a hF
              refine r_do 24 rfl (by kernel_rfl) rfl rfl ?_
              refine w_lit1 67 FE (((gst xs (k : Int)).1, (([((gst xs (k : Int)).2.1.length : Int)]) ++ (((gst xs (k : Int)).2.1) ++ (restS (gst xs (k : Int)))))) : Fld) #[.int .i64 ((gst xs (k : Int)).1), .slice A65 (([((gst xs (k : Int)).2.1.length : Int)]) ++ (((gst xs (k : Int)).2.1) ++ (restS (gst xs (k : Int))))).length c65] (fun kb => (Value.slice A65 (([((gst xs (k : Int)).2.1.length : Int)]) ++ (((gst xs (k : Int)).2.1) ++ (restS (gst xs (k : Int))))).length c65).ownBlock = some kb) hF hH rfl Tryd.underlying62 ty64 (by simp only [List.map_toArray, List.map_cons, List.map_nil, hF.tmp 66 rfl] <;> rfl) (by decide) (by kernel_rfl) (fld_mk (f := (((gst xs (k : Int)).1, (([((gst xs (k : Int)).2.1.length : Int)]) ++ (((gst xs (k : Int)).2.1) ++ (restS (gst xs (k : Int)))))) : Fld)) ((hH.rd 40 rfl))) (fun kb hk => ⟨40, _, rfl, hk⟩) ?_
              clear hF hH; intro a w b67 hF hb67_ hH
              clear hS; have hS : SL _ _ := SL.of hH (sub_cons (sub_cons (sub_cons (sub_cons (sub_cons (sub_cons (sub_nil _) 1503 rfl) 1502 rfl) 1501 rfl) 1500 rfl) 1499 rfl) 901 rfl); refine ⟨hS, ?_⟩
              refine r_do 25 rfl (by kernel_rfl) rfl rfl ?_
              refine w_append 4 67 (xs := ((xs.take k).map fldS)) (ys := ([(((gst xs (k : Int)).1, (([((gst xs (k : Int)).2.1.length : Int)]) ++ (((gst xs (k : Int)).2.1) ++ (restS (gst xs (k : Int)))))) : Fld)])) hF hH rfl Tryd.underlying62 ty64 rfl rfl rfl rfl ((hH.rd 67 rfl)) (by intro k_ hk_; exact .inr hk_) (hF.tmp 43 rfl) (hF.tmp 67 rfl) (by simp only [List.length_append, List.length_nil, List.length_cons, List.length_map, List.length_take] at *; omega) (by simp only [List.length_append, List.length_nil, List.length_cons, List.length_map, List.length_take, maxLen] at *; omega) (fun kb => okv kb ∨ (fun kb => (fun kb => (Value.slice A65 (([((gst xs (k : Int)).2.1.length : Int)]) ++ (((gst xs (k : Int)).2.1) ++ (restS (gst xs (k : Int))))).length c65).ownBlock = some kb) kb ∨ kb = b67) kb) (fun w' v' h => h) (by rintro k_ (hk_ | hk_); exact .inl hk_; exact .inr hk_) ?_
              clear hF hH; intro a w v68 hF hH
              clear hS; have hS : SL _ _ := SL.of hH (sub_cons (sub_cons (sub_cons (sub_cons (sub_cons (sub_cons (sub_nil _) 1503 rfl) 1502 rfl) 1501 rfl) 1500 rfl) 1499 rfl) 901 rfl); refine ⟨hS, ?_⟩
              refine r_take 26 hF rfl rfl rfl (by kernel_rfl) (by kernel_rfl) (by kernel_rfl) (fun _ _ _ h => h) rfl hS (fun w hS => x_assign (hF.tmp 68 rfl)) rfl ?_; clear hF; intro a hF
              refine r_end (by kernel_rfl) ?_; clear hS
              refine hK10 _ _ ?_
              refine wp_region_lit ?_
              refine l_at hF rfl rfl rfl (x_move (hF.tmp 5 rfl)) ?_; clear hF; intro a hF
              refine l_at hF rfl rfl rfl (x_add (hF.tmp 17 rfl) rfl (w64 (by omega) (by omega))) ?_; clear hF; intro a hF
              refine l_at hF rfl rfl rfl (x_assign (hF.tmp 18 rfl)) ?_; clear hF; intro a hF
              refine wpList_nil ?_
              have hHs : Hp (fun _ => False) w0 w [(901, .rd_ StE A xs c (fun k => k < w0.heap.size)), (4, .row FE 64 v68 (((xs.take k).map fldS) ++ [(((gst xs (k : Int)).1, ([(((gst xs (k : Int)).2.1.length : Int))] ++ ((gst xs (k : Int)).2.1 ++ restS (gst xs (k : Int))))) : Fld)]) (fun kb => okv kb ∨ (fun kb => (fun kb => (Value.slice A65 (([((gst xs (k : Int)).2.1.length : Int)]) ++ (((gst xs (k : Int)).2.1) ++ (restS (gst xs (k : Int))))).length c65).ownBlock = some kb) kb ∨ kb = b67) kb))] := hH.sub _ (sub_cons (sub_cons (sub_nil _) 4 rfl) 901 rfl)
              rw [show ((xs.take k).map fldS) ++ [(((gst xs (k : Int)).1, ([(((gst xs (k : Int)).2.1.length : Int))] ++ ((gst xs (k : Int)).2.1 ++ restS (gst xs (k : Int))))) : Fld)] = (xs.take (k + 1)).map fldS from fld_stepL hc16] at hHs
              exact ⟨_, by omega, ⟨k + 1, v68, (fun kb => okv kb ∨ (fun kb => (fun kb => (Value.slice A65 (([((gst xs (k : Int)).2.1.length : Int)]) ++ (((gst xs (k : Int)).2.1) ++ (restS (gst xs (k : Int))))).length c65).ownBlock = some kb) kb ∨ kb = b67) kb), rfl, by omega, right_step hc16 hq0_1 hcr, (((hF.bare.add hF 5 rfl).add hF 4 rfl).add hF 0 rfl), hHs⟩⟩
            ·
              refine w_s2b 64 (xs := (((gst xs (k : Int)).2.1) ++ (restS (gst xs (k : Int))))) hF hH rfl Tryd.underlying9 Tryd.underlying29 Tryd.underlying5 (hF.tmp 63 rfl) ((hbs _ hmem).1.app (restS_byte (hbs _ hmem))) (by have := key_len hcr; have := restS_len hcr (hbs _ hmem); simp only [List.length_append]; omega) ?_
              clear hF hH; intro a w b64 c64 hb64_ hF hH
              clear hS; have hS : SL _ _ := SL.of hH (sub_cons (sub_cons (sub_cons (sub_cons (sub_cons (sub_cons (sub_nil _) 1503 rfl) 1502 rfl) 1501 rfl) 1500 rfl) 1499 rfl) 901 rfl); refine ⟨hS, ?_⟩
              refine r_do 13 rfl (by kernel_rfl) rfl rfl ?_
              refine w_lit 40 (enc := Value.int .u8) (h1 := fun _ => rfl) ([((gst xs (k : Int)).2.1.length : Int)]) hF hH rfl Tryd.underlying29 ty5 (by simp only [List.map_toArray, List.map_cons, List.map_nil, hF.tmp 55 rfl]; rfl) rfl (by decide) (by decide) (by kernel_rfl) ?_
              clear hF hH; intro a w b56 hF hH
              clear hS; have hS : SL _ _ := SL.of hH (sub_cons (sub_cons (sub_cons (sub_cons (sub_cons (sub_cons (sub_nil _) 1503 rfl) 1502 rfl) 1501 rfl) 1500 rfl) 1499 rfl) 901 rfl); refine ⟨hS, ?_⟩
              refine r_do 22 rfl (by kernel_rfl) rfl rfl ?_
              refine w_append 40 64 (xs := ([((gst xs (k : Int)).2.1.length : Int)])) (ys := (((gst xs (k : Int)).2.1) ++ (restS (gst xs (k : Int))))) hF hH rfl Tryd.underlying29 ty5 rfl rfl rfl rfl ((hH.rd 64 rfl)) (by intro k_ hk_; exact .inr hk_) (hF.tmp 56 rfl) (hF.tmp 64 rfl) (by have := key_len hcr; have := restS_len hcr (hbs _ hmem); simp only [List.length_cons, List.length_nil, List.length_append]; omega) (by have := key_len hcr; have := restS_len hcr (hbs _ hmem); simp only [List.length_cons, List.length_nil, List.length_append, maxLen]; omega) (fun _ => False) (fun w' v' h => row_flat h _) (fun k_ hk_ => hk_.elim) ?_
              clear hF hH; intro a w v65 hF hH
              clear hS; have hS : SL _ _ := SL.of hH (sub_cons (sub_cons (sub_cons (sub_cons (sub_cons (sub_cons (sub_nil _) 1503 rfl) 1502 rfl) 1501 rfl) 1500 rfl) 1499 rfl) 901 rfl); refine ⟨hS, ?_⟩
              obtain ⟨A65, c65, rfl⟩ := (hH.row 40 rfl).form
              have hH := hH.freeze 40 rfl (fun kb => (Value.slice A65 (([((gst xs (k : Int)).2.1.length : Int)]) ++ (((gst xs (k : Int)).2.1) ++ (restS (gst xs (k : Int))))).length c65).ownBlock = some kb) (fun kb => ⟨fun h => .inr h, fun h => h.resolve_left id⟩)
              refine r_take 23 hF rfl rfl rfl (by kernel_rfl) (by kernel_rfl) (by kernel_rfl) (fun _ _ _ h => h) rfl hS (fun w hS => x_buildS (cells := #[.int .i64 (gst xs (k : Int)).1, .slice A65 (([((gst xs (k : Int)).2.1.length : Int)]) ++ (((gst xs (k : Int)).2.1) ++ (restS (gst xs (k : Int))))).length c65]) (places := #[(0, 1), (1, 1)]) Tryd.underlying64 ty64 (by kernel_rfl) (by simp only [List.map_toArray, List.map_cons, List.map_nil, hF.tmp 48 rfl, hF.tmp 65 rfl] <;> rfl) rfl) rfl ?_; clear hF; intro a hF
              refine r_do 24 rfl (by kernel_rfl) rfl rfl ?_
              refine w_lit1 67 FE (((gst xs (k : Int)).1, (([((gst xs (k : Int)).2.1.length : Int)]) ++ (((gst xs (k : Int)).2.1) ++ (restS (gst xs (k : Int)))))) : Fld) #[.int .i64 ((gst xs (k : Int)).1), .slice A65 (([((gst xs (k : Int)).2.1.length : Int)]) ++ (((gst xs (k : Int)).2.1) ++ (restS (gst xs (k : Int))))).length c65] (fun kb => (Value.slice A65 (([((gst xs (k : Int)).2.1.length : Int)]) ++ (((gst xs (k : Int)).2.1) ++ (restS (gst xs (k : Int))))).length c65).ownBlock = some kb) hF hH rfl Tryd.underlying62 ty64 (by simp only [List.map_toArray, List.map_cons, List.map_nil, hF.tmp 66 rfl] <;> rfl) (by decide) (by kernel_rfl) (fld_mk (f := (((gst xs (k : Int)).1, (([((gst xs (k : Int)).2.1.length : Int)]) ++ (((gst xs (k : Int)).2.1) ++ (restS (gst xs (k : Int)))))) : Fld)) ((hH.rd 40 rfl))) (fun kb hk => ⟨40, _, rfl, hk⟩) ?_
              clear hF hH; intro a w b67 hF hb67_ hH
              clear hS; have hS : SL _ _ := SL.of hH (sub_cons (sub_cons (sub_cons (sub_cons (sub_cons (sub_cons (sub_nil _) 1503 rfl) 1502 rfl) 1501 rfl) 1500 rfl) 1499 rfl) 901 rfl); refine ⟨hS, ?_⟩
              refine r_do 25 rfl (by kernel_rfl) rfl rfl ?_
              refine w_append 4 67 (xs := ((xs.take k).map fldS)) (ys := ([(((gst xs (k : Int)).1, (([((gst xs (k : Int)).2.1.length : Int)]) ++ (((gst xs (k : Int)).2.1) ++ (restS (gst xs (k : Int)))))) : Fld)])) hF hH rfl Tryd.underlying62 ty64 rfl rfl rfl rfl ((hH.rd 67 rfl)) (by intro k_ hk_; exact .inr hk_) (hF.tmp 43 rfl) (hF.tmp 67 rfl) (by simp only [List.length_append, List.length_nil, List.length_cons, List.length_map, List.length_take] at *; omega) (by simp only [List.length_append, List.length_nil, List.length_cons, List.length_map, List.length_take, maxLen] at *; omega) (fun kb => okv kb ∨ (fun kb => (fun kb => (Value.slice A65 (([((gst xs (k : Int)).2.1.length : Int)]) ++ (((gst xs (k : Int)).2.1) ++ (restS (gst xs (k : Int))))).length c65).ownBlock = some kb) kb ∨ kb = b67) kb) (fun w' v' h => h) (by rintro k_ (hk_ | hk_); exact .inl hk_; exact .inr hk_) ?_
              clear hF hH; intro a w v68 hF hH
              clear hS; have hS : SL _ _ := SL.of hH (sub_cons (sub_cons (sub_cons (sub_cons (sub_cons (sub_cons (sub_nil _) 1503 rfl) 1502 rfl) 1501 rfl) 1500 rfl) 1499 rfl) 901 rfl); refine ⟨hS, ?_⟩
              refine r_take 26 hF rfl rfl rfl (by kernel_rfl) (by kernel_rfl) (by kernel_rfl) (fun _ _ _ h => h) rfl hS (fun w hS => x_assign (hF.tmp 68 rfl)) rfl ?_; clear hF; intro a hF
              refine r_end (by kernel_rfl) ?_; clear hS
              refine hK10 _ _ ?_
              refine wp_region_lit ?_
              refine l_at hF rfl rfl rfl (x_move (hF.tmp 5 rfl)) ?_; clear hF; intro a hF
              refine l_at hF rfl rfl rfl (x_add (hF.tmp 17 rfl) rfl (w64 (by omega) (by omega))) ?_; clear hF; intro a hF
              refine l_at hF rfl rfl rfl (x_assign (hF.tmp 18 rfl)) ?_; clear hF; intro a hF
              refine wpList_nil ?_
              have hHs : Hp (fun _ => False) w0 w [(901, .rd_ StE A xs c (fun k => k < w0.heap.size)), (4, .row FE 64 v68 (((xs.take k).map fldS) ++ [(((gst xs (k : Int)).1, ([(((gst xs (k : Int)).2.1.length : Int))] ++ ((gst xs (k : Int)).2.1 ++ restS (gst xs (k : Int))))) : Fld)]) (fun kb => okv kb ∨ (fun kb => (fun kb => (Value.slice A65 (([((gst xs (k : Int)).2.1.length : Int)]) ++ (((gst xs (k : Int)).2.1) ++ (restS (gst xs (k : Int))))).length c65).ownBlock = some kb) kb ∨ kb = b67) kb))] := hH.sub _ (sub_cons (sub_cons (sub_nil _) 4 rfl) 901 rfl)
              rw [show ((xs.take k).map fldS) ++ [(((gst xs (k : Int)).1, ([(((gst xs (k : Int)).2.1.length : Int))] ++ ((gst xs (k : Int)).2.1 ++ restS (gst xs (k : Int))))) : Fld)] = (xs.take (k + 1)).map fldS from fld_stepL hc16] at hHs
              exact ⟨_, by omega, ⟨k + 1, v68, (fun kb => okv kb ∨ (fun kb => (fun kb => (Value.slice A65 (([((gst xs (k : Int)).2.1.length : Int)]) ++ (((gst xs (k : Int)).2.1) ++ (restS (gst xs (k : Int))))).length c65).ownBlock = some kb) kb ∨ kb = b67) kb), rfl, by omega, right_step hc16 hq0_1 hcr, (((hF.bare.add hF 5 rfl).add hF 4 rfl).add hF 0 rfl), hHs⟩⟩
      · have hk16_8 := hc16; try simp only [Bool.or_eq_true, Bool.and_eq_true, Bool.or_eq_false_iff, Bool.and_eq_false_iff, Bool.not_eq_true', Bool.not_eq_false', decide_eq_true_eq, decide_eq_false_iff_not, Bool.not_true, Bool.not_false] at hc16
        refine wp_exit ?_
        refine hK6 _ _ ?_
        refine wp_seq_k fun khK18 hK18 => ?_
        refine wp_region_lit ?_
        obtain rfl : k = xs.length := by omega
        rw [List.take_length] at hq0_1 hH
        obtain ⟨Av, cv, rfl⟩ := (hH.row 4 rfl).form
        refine l_at hF rfl rfl rfl (x_move (hF.tmp 4 rfl)) ?_; clear hF; intro a hF
        refine wpList_plain rfl fun K hK => ?_
        refine w_call hF (x_enter Tryd.func34 (by kernel_rfl) rfl (by simp only [List.map_toArray, List.map_cons, List.map_nil, hF.tmp 70 rfl] <;> rfl)) (refEnc_at (xs := xs.map fldS) (Row.rd (ok' := fun k_ => okv k_ ∨ (.slice Av ((xs.map fldS)).length cv : Value).ownBlock = some k_) (hH.row 4 rfl) (fun _ hk_ _ => .inl hk_) (fun _ hk_ => .inr hk_)) (encR_of hc12 hq0_1 hbs)) rfl rfl ?_
        rintro _ w ⟨vr71, er71, rfl, hm_, hr_⟩; refine ⟨_, rfl, ?_⟩; clear hF; intro a hF; have hH := Hp.rowOut hH 71 hm_ hr_; obtain ⟨Ar71, cr71, rfl⟩ := (hH.row 71 rfl).form
        refine hK _ _ ?_; clear hK K
        refine l_at hF rfl rfl rfl (x_move (hF.tmp 71 rfl)) ?_; clear hF; intro a hF
        refine l_at hF rfl rfl rfl (x_extract (hF.tmp 69 rfl) rfl) ?_; clear hF; intro a hF
        refine l_at hF rfl rfl rfl (x_extract (hF.tmp 69 rfl) rfl) ?_; clear hF; intro a hF
        refine l_at hF rfl rfl rfl (x_assign (hF.tmp 72 rfl)) ?_; clear hF; intro a hF
        refine l_at hF rfl rfl rfl (x_assign (hF.tmp 73 rfl)) ?_; clear hF; intro a hF
        refine wpList_nil ?_
        refine hK18 _ _ ?_
        refine wp_seq_k fun khK19 hK19 => ?_
        refine wp_region_lit ?_
        refine l_at hF rfl rfl rfl (x_move (hF.tmp 8 rfl)) ?_; clear hF; intro a hF
        refine l_at hF rfl rfl rfl (x_assign (hF.tmp 74 rfl)) ?_; clear hF; intro a hF
        refine l_at hF rfl rfl rfl (x_assign rfl) ?_; clear hF; intro a hF
        refine wpList_nil ?_
        refine hK19 _ _ ?_
        refine wp_ret ?_
        try simp only [Exit.then, Exit.inBlock]
        have hz := enc_good hc12 hq0_1
        exact fin_ret hF (res2 hF rfl rfl rfl) ⟨_, by rw [hz] <;> rfl, hH.mods, Hp.out hH 71 rfl⟩

set_option maxRecDepth 100000 in
theorem st_eqD {w : World} {x y : StepD} (hx0 : Byte x.2.1) (hy0 : Byte y.2.1) (hx1 : Byte x.2.2.1) (hy1 : Byte y.2.2.1) : (Op.eqFields 9999 #[.int .i64 x.1, .string (strOfNums x.2.1), .string (strOfNums x.2.2.1), .int .i64 x.2.2.2] #[.int .i64 y.1, .string (strOfNums y.2.1), .string (strOfNums y.2.2.1), .int .i64 y.2.2.2] (Tryd.prog.fieldsOf 38).toList).run Tryd.prog w = .ok (decide (x = y)) w := by
  have key : (x = y) = (x.1 = y.1 ∧ x.2.1 = y.2.1 ∧ x.2.2.1 = y.2.2.1 ∧ x.2.2.2 = y.2.2.2) := propext (by obtain ⟨x0, x1, x2, x3⟩ := x; obtain ⟨y0, y1, y2, y3⟩ := y; simp)
  have key2 : decide (x = y) = decide (x.1 = y.1 ∧ x.2.1 = y.2.1 ∧ x.2.2.1 = y.2.2.1 ∧ x.2.2.2 = y.2.2.2) := by simp only [key]
  rw [key2]
  simp only [Program.fieldsOf, Tryd.underlying38]
  simp [Op.eqFields, part, go_sem, tl_eq]
  have hs0 : (strOfNums x.2.1 = strOfNums y.2.1) = (x.2.1 = y.2.1) := propext ⟨sn_inj _ _ hx0 hy0, fun h => by rw [h]⟩
  have hs1 : (strOfNums x.2.2.1 = strOfNums y.2.2.1) = (x.2.2.1 = y.2.2.1) := propext ⟨sn_inj _ _ hx1 hy1, fun h => by rw [h]⟩
  simp only [hs0, hs1]
  by_cases h0 : x.1 = y.1 <;> by_cases h1 : x.2.1 = y.2.1 <;> by_cases h2 : x.2.2.1 = y.2.2.1 <;> by_cases h3 : x.2.2.2 = y.2.2.2 <;> simp [h0, h1, h2, h3]
theorem st_eqs {dst : Option Tmp} {ty t' : TypeId} {pos : String} {af : Array Edge} {gg : Option (Nat × Bool)} {a : Act} {w : World} {u v : Operand} {x y : StepD} (hx0 : Byte x.2.1) (hy0 : Byte y.2.1) (hx1 : Byte x.2.2.1) (hy1 : Byte y.2.2.1) (hu : a.eval u = .agg #[.int .i64 x.1, .string (strOfNums x.2.1), .string (strOfNums x.2.2.1), .int .i64 x.2.2.2]) (hv : a.eval v = .agg #[.int .i64 y.1, .string (strOfNums y.2.1), .string (strOfNums y.2.2.1), .int .i64 y.2.2.2]) : At Tryd.prog ⟨dst, .binOp .eql 38 u v t', ty, pos, af, gg⟩ a w (.bool (decide (x = y))) :=
  x_eqS (by kernel_rfl) (by kernel_rfl) (by kernel_rfl) hu hv (st_eqD hx0 hy0 hx1 hy1)
theorem st_nes {dst : Option Tmp} {ty t' : TypeId} {pos : String} {af : Array Edge} {gg : Option (Nat × Bool)} {a : Act} {w : World} {u v : Operand} {x y : StepD} (hx0 : Byte x.2.1) (hy0 : Byte y.2.1) (hx1 : Byte x.2.2.1) (hy1 : Byte y.2.2.1) (hu : a.eval u = .agg #[.int .i64 x.1, .string (strOfNums x.2.1), .string (strOfNums x.2.2.1), .int .i64 x.2.2.2]) (hv : a.eval v = .agg #[.int .i64 y.1, .string (strOfNums y.2.1), .string (strOfNums y.2.2.1), .int .i64 y.2.2.2]) : At Tryd.prog ⟨dst, .binOp .neq 38 u v t', ty, pos, af, gg⟩ a w (.bool (!decide (x = y))) :=
  x_neS (by kernel_rfl) (by kernel_rfl) (by kernel_rfl) hu hv (st_eqD hx0 hy0 hx1 hy1)

set_option maxRecDepth 100000 in
set_option maxHeartbeats 1000000 in
theorem asame_calls (w0 : World) {ok1 : Nat → Prop} {A1 : Option Addr} {xs1 : List StepD} {c1 : Nat} (hr1 : Rd StE w0 ok1 A1 xs1 c1) {ok2 : Nat → Prop} {A2 : Option Addr} {xs2 : List StepD} {c2 : Nat} (hr2 : Rd StE w0 ok2 A2 xs2 c2) (hb1 : ∀ s ∈ xs1, StepB s) (hb2 : ∀ s ∈ xs2, StepB s) : Calls Tryd.prog 17 #[.slice A1 xs1.length c1, .slice A2 xs2.length c2] w0 fun e w' => e = .returned (.bool (sameS xs1 xs2)) ∧ Mods (fun _ => False) w0 w' := by
  refine calls_of_wp Tryd.func17 rfl ?_
  have hF := Fr.enter #[.slice A1 xs1.length c1, .slice A2 xs2.length c2] 26 (slotsOf [.slice A1 xs1.length c1, .slice A2 xs2.length c2] 0) (Nat.le_of_ble_eq_true rfl) (fun i v h => by have h2 := (get_slotsOf _ 0 i v h).2; simpa only [List.getElem?_toArray, Nat.sub_zero] using h2)
  have hH := Hp.nil (fun _ => False) w0
  rw [Tryd.ntmps17]
  revert hF; generalize (⟨(#[.slice A1 xs1.length c1, .slice A2 xs2.length c2] : Array Value) ++ Array.replicate (26 - (#[.slice A1 xs1.length c1, .slice A2 xs2.length c2] : Array Value).size) undef, []⟩ : Act) = a; intro hF
  have hH := hH.arg 901 hr1.all (fun _ h => ⟨h, fun h => h⟩)
  have hle901 := hr1.le; unfold maxLen at hle901
  have hH := hH.arg 902 hr2.all (fun _ h => ⟨h, fun h => h⟩)
  have hle902 := hr2.le; unfold maxLen at hle902
  refine wp_seq_k fun khK1 hK1 => ?_
  refine wp_region_lit ?_
  refine l_at hF rfl rfl rfl (x_assign rfl) ?_; clear hF; intro a hF
  refine wpList_nil ?_
  refine hK1 _ _ ?_
  refine wp_seq_k fun khK2 hK2 => ?_
  refine wp_seq_k fun khK3 hK3 => ?_
  refine wp_region_lit ?_
  refine l_at hF rfl rfl rfl (x_move (hF.tmp 0 rfl)) ?_; clear hF; intro a hF
  refine l_at hF rfl rfl rfl (x_len_slice Tryd.underlying28 (hF.tmp 6 rfl)) ?_; clear hF; intro a hF
  refine l_at hF rfl rfl rfl (x_move (hF.tmp 1 rfl)) ?_; clear hF; intro a hF
  refine l_at hF rfl rfl rfl (x_len_slice Tryd.underlying28 (hF.tmp 8 rfl)) ?_; clear hF; intro a hF
  refine l_at hF rfl rfl rfl (x_neq (hF.tmp 7 rfl) (hF.tmp 9 rfl)) ?_; clear hF; intro a hF
  refine wpList_nil ?_
  refine hK3 _ _ ?_
  refine wp_cond_split (hF.tmp 10 rfl) (fun hc10 => ?_) (fun hc10 => ?_)
  · have hk10_1 := hc10; try simp only [Bool.or_eq_true, Bool.and_eq_true, Bool.or_eq_false_iff, Bool.and_eq_false_iff, Bool.not_eq_true', Bool.not_eq_false', decide_eq_true_eq, decide_eq_false_iff_not, Bool.not_true, Bool.not_false] at hc10
    have hz := sameS_len (xs := xs1) (ys := xs2) (by omega)
    refine wp_seq_k fun khK4 hK4 => ?_
    refine wp_region_lit ?_
    refine l_at hF rfl rfl rfl (x_assign rfl) ?_; clear hF; intro a hF
    refine wpList_nil ?_
    refine hK4 _ _ ?_
    refine wp_ret ?_
    try simp only [Exit.then, Exit.inBlock]
    exact fin_ret hF (res1 hF rfl rfl) ⟨by rw [hz] <;> rfl, hH.mods⟩
  · have hk10_2 := hc10; try simp only [Bool.or_eq_true, Bool.and_eq_true, Bool.or_eq_false_iff, Bool.and_eq_false_iff, Bool.not_eq_true', Bool.not_eq_false', decide_eq_true_eq, decide_eq_false_iff_not, Bool.not_true, Bool.not_false] at hc10
    have hll : (xs1.length : Int) = xs2.length := by omega
    refine wp_skip ?_
    refine hK2 _ _ ?_
    refine wp_seq_k fun khK5 hK5 => ?_
    refine wp_seq_k fun khK6 hK6 => ?_
    refine wp_region_lit ?_
    refine l_at hF rfl rfl rfl (x_assign rfl) ?_; clear hF; intro a hF
    refine wpList_nil ?_
    refine hK6 _ _ ?_
    refine wp_block ?_
    refine wp_loop_ghost (fun n_ a w => ∃ k : Nat, n_ = xs1.length - k ∧ (k ≤ xs1.length) ∧ (xs1.take k = xs2.take k) ∧ Fr 26 a [(0, .slice A1 xs1.length c1), (1, .slice A2 xs2.length c2), (5, .int .i64 (k : Int))] ∧ Hp (fun _ => False) w0 w [(901, .rd_ StE A1 xs1 c1 (fun k => k < w0.heap.size)), (902, .rd_ StE A2 xs2 c2 (fun k => k < w0.heap.size))]) (xs1.length) ?_ ?_
    · exact ⟨0, rfl, by omega, rfl, (((hF.bare.add hF 5 rfl).add hF 1 rfl).add hF 0 rfl), hH.sub _ (sub_cons (sub_cons (sub_nil _) 902 rfl) 901 rfl)⟩
    · rintro _ a w ⟨k, rfl, hq0_0, hq0_1, hF, hH⟩
      refine wp_seq_k fun khK7 hK7 => ?_
      refine wp_seq_k fun khK8 hK8 => ?_
      refine wp_region_lit ?_
      refine l_at hF rfl rfl rfl (x_move (hF.tmp 5 rfl)) ?_; clear hF; intro a hF
      refine l_at hF rfl rfl rfl (x_move (hF.tmp 0 rfl)) ?_; clear hF; intro a hF
      refine l_at hF rfl rfl rfl (x_len_slice Tryd.underlying28 (hF.tmp 12 rfl)) ?_; clear hF; intro a hF
      refine l_at hF rfl rfl rfl (x_lss (hF.tmp 11 rfl) (hF.tmp 13 rfl)) ?_; clear hF; intro a hF
      refine wpList_nil ?_
      refine hK8 _ _ ?_
      refine wp_cond_split (hF.tmp 14 rfl) (fun hc14 => ?_) (fun hc14 => ?_)
      · have hk14_3 := hc14; try simp only [Bool.or_eq_true, Bool.and_eq_true, Bool.or_eq_false_iff, Bool.and_eq_false_iff, Bool.not_eq_true', Bool.not_eq_false', decide_eq_true_eq, decide_eq_false_iff_not, Bool.not_true, Bool.not_false] at hc14
        obtain ⟨hf1_0, hf1_1, hf1_2, hf1_3, hfw1⟩ := rd_st ((hH.rd 901 rfl)) (gst_some (xs := xs1) (i := (k : Int)) (by omega) (by omega))
        have hH := hH.subcels 901 rfl 1499 hfw1 (Rd.inok ((hH.rd 901 rfl)) (by omega) _)
        have hH := hH.subcel 901 rfl 1500 hf1_0 (Rd.inok ((hH.rd 901 rfl)) (by omega) _)
        have hH := hH.subcel 901 rfl 1501 hf1_1 (Rd.inok ((hH.rd 901 rfl)) (by omega) _)
        have hH := hH.subcel 901 rfl 1502 hf1_2 (Rd.inok ((hH.rd 901 rfl)) (by omega) _)
        have hH := hH.subcel 901 rfl 1503 hf1_3 (Rd.inok ((hH.rd 901 rfl)) (by omega) _)
        obtain ⟨hf2_0, hf2_1, hf2_2, hf2_3, hfw2⟩ := rd_st ((hH.rd 902 rfl)) (gst_some (xs := xs2) (i := (k : Int)) (by omega) (by omega))
        have hH := hH.subcels 902 rfl 2499 hfw2 (Rd.inok ((hH.rd 902 rfl)) (by omega) _)
        have hH := hH.subcel 902 rfl 2500 hf2_0 (Rd.inok ((hH.rd 902 rfl)) (by omega) _)
        have hH := hH.subcel 902 rfl 2501 hf2_1 (Rd.inok ((hH.rd 902 rfl)) (by omega) _)
        have hH := hH.subcel 902 rfl 2502 hf2_2 (Rd.inok ((hH.rd 902 rfl)) (by omega) _)
        have hH := hH.subcel 902 rfl 2503 hf2_3 (Rd.inok ((hH.rd 902 rfl)) (by omega) _)
        have hm1 := gst_mem (xs := xs1) (j := k) (by omega)
        have hm2 := gst_mem (xs := xs2) (j := k) (by omega)
        refine wp_skip ?_
        refine hK7 _ _ ?_
        refine wp_seq_k fun khK9 hK9 => ?_
        refine wp_block ?_
        refine wp_seq_k fun khK10 hK10 => ?_
        refine r_start [(901, .rd_ StE A1 xs1 c1 (fun k => k < w0.heap.size)), (902, .rd_ StE A2 xs2 c2 (fun k => k < w0.heap.size)), (1499, .cels (adr A1 ((k : Int).toNat * 4)) #[.int .i64 (gst xs1 (k : Int)).1, .string (strOfNums (gst xs1 (k : Int)).2.1), .string (strOfNums (gst xs1 (k : Int)).2.2.1), .int .i64 (gst xs1 (k : Int)).2.2.2]), (1500, .cel (adr A1 ((k : Int).toNat * 4)) (.int .i64 (gst xs1 (k : Int)).1)), (1501, .cel (adr A1 ((k : Int).toNat * 4 + 1)) (.string (strOfNums (gst xs1 (k : Int)).2.1))), (1502, .cel (adr A1 ((k : Int).toNat * 4 + 2)) (.string (strOfNums (gst xs1 (k : Int)).2.2.1))), (1503, .cel (adr A1 ((k : Int).toNat * 4 + 3)) (.int .i64 (gst xs1 (k : Int)).2.2.2)), (2499, .cels (adr A2 ((k : Int).toNat * 4)) #[.int .i64 (gst xs2 (k : Int)).1, .string (strOfNums (gst xs2 (k : Int)).2.1), .string (strOfNums (gst xs2 (k : Int)).2.2.1), .int .i64 (gst xs2 (k : Int)).2.2.2]), (2500, .cel (adr A2 ((k : Int).toNat * 4)) (.int .i64 (gst xs2 (k : Int)).1)), (2501, .cel (adr A2 ((k : Int).toNat * 4 + 1)) (.string (strOfNums (gst xs2 (k : Int)).2.1))), (2502, .cel (adr A2 ((k : Int).toNat * 4 + 2)) (.string (strOfNums (gst xs2 (k : Int)).2.2.1))), (2503, .cel (adr A2 ((k : Int).toNat * 4 + 3)) (.int .i64 (gst xs2 (k : Int)).2.2.2))] (by kernel_rfl) hH fun hH => ?_
        have hS : SL [(901, .rd_ StE A1 xs1 c1 (fun k => k < w0.heap.size)), (902, .rd_ StE A2 xs2 c2 (fun k => k < w0.heap.size)), (1499, .cels (adr A1 ((k : Int).toNat * 4)) #[.int .i64 (gst xs1 (k : Int)).1, .string (strOfNums (gst xs1 (k : Int)).2.1), .string (strOfNums (gst xs1 (k : Int)).2.2.1), .int .i64 (gst xs1 (k : Int)).2.2.2]), (1500, .cel (adr A1 ((k : Int).toNat * 4)) (.int .i64 (gst xs1 (k : Int)).1)), (1501, .cel (adr A1 ((k : Int).toNat * 4 + 1)) (.string (strOfNums (gst xs1 (k : Int)).2.1))), (1502, .cel (adr A1 ((k : Int).toNat * 4 + 2)) (.string (strOfNums (gst xs1 (k : Int)).2.2.1))), (1503, .cel (adr A1 ((k : Int).toNat * 4 + 3)) (.int .i64 (gst xs1 (k : Int)).2.2.2)), (2499, .cels (adr A2 ((k : Int).toNat * 4)) #[.int .i64 (gst xs2 (k : Int)).1, .string (strOfNums (gst xs2 (k : Int)).2.1), .string (strOfNums (gst xs2 (k : Int)).2.2.1), .int .i64 (gst xs2 (k : Int)).2.2.2]), (2500, .cel (adr A2 ((k : Int).toNat * 4)) (.int .i64 (gst xs2 (k : Int)).1)), (2501, .cel (adr A2 ((k : Int).toNat * 4 + 1)) (.string (strOfNums (gst xs2 (k : Int)).2.1))), (2502, .cel (adr A2 ((k : Int).toNat * 4 + 2)) (.string (strOfNums (gst xs2 (k : Int)).2.2.1))), (2503, .cel (adr A2 ((k : Int).toNat * 4 + 3)) (.int .i64 (gst xs2 (k : Int)).2.2.2))] _ := SL.of hH (sub_cons (sub_cons (sub_cons (sub_cons (sub_cons (sub_cons (sub_cons (sub_cons (sub_cons (sub_cons (sub_cons (sub_cons (sub_nil _) 2503 rfl) 2502 rfl) 2501 rfl) 2500 rfl) 2499 rfl) 1503 rfl) 1502 rfl) 1501 rfl) 1500 rfl) 1499 rfl) 902 rfl) 901 rfl)
        refine r_take 0 hF rfl rfl rfl (by kernel_rfl) (by kernel_rfl) (by kernel_rfl) (fun _ _ _ h => h) rfl hS (fun w hS => x_move (hF.tmp 0 rfl)) rfl ?_; clear hF; intro a hF
        refine r_take 1 hF rfl rfl rfl (by kernel_rfl) (by kernel_rfl) (by kernel_rfl) (fun _ _ _ h => h) rfl hS (fun w hS => x_move (hF.tmp 5 rfl)) rfl ?_; clear hF; intro a hF
        refine r_take 2 hF rfl rfl rfl (by kernel_rfl) (by kernel_rfl) (by kernel_rfl) (fun _ _ _ h => h) rfl hS (fun w hS => x_iaddr_A Tryd.underlying28 ty38 ((hH.rd 901 rfl)) (hF.tmp 17 rfl) (hF.tmp 18 rfl) (by omega) (by omega) _) rfl ?_; clear hF; intro a hF
        refine r_take 3 hF rfl rfl rfl (by kernel_rfl) (by kernel_rfl) (by kernel_rfl) (fun _ _ _ h => h) rfl hS (fun w hS => x_loadn ty38 (hF.tmp 19 rfl) rfl (hS 1499 _ rfl)) rfl ?_; clear hF; intro a hF
        refine r_take 4 hF rfl rfl rfl (by kernel_rfl) (by kernel_rfl) (by kernel_rfl) (fun _ _ _ h => h) rfl hS (fun w hS => x_move (hF.tmp 1 rfl)) rfl ?_; clear hF; intro a hF
        refine r_take 5 hF rfl rfl rfl (by kernel_rfl) (by kernel_rfl) (by kernel_rfl) (fun _ _ _ h => h) rfl hS (fun w hS => x_move (hF.tmp 5 rfl)) rfl ?_; clear hF; intro a hF
        refine r_take 6 hF rfl rfl rfl (by kernel_rfl) (by kernel_rfl) (by kernel_rfl) (fun _ _ _ h => h) rfl hS (fun w hS => x_iaddr_A Tryd.underlying28 ty38 ((hH.rd 902 rfl)) (hF.tmp 21 rfl) (hF.tmp 22 rfl) (by omega) (by omega) _) rfl ?_; clear hF; intro a hF
        refine r_take 7 hF rfl rfl rfl (by kernel_rfl) (by kernel_rfl) (by kernel_rfl) (fun _ _ _ h => h) rfl hS (fun w hS => x_loadn ty38 (hF.tmp 23 rfl) rfl (hS 2499 _ rfl)) rfl ?_; clear hF; intro a hF
        refine r_take 8 hF rfl rfl rfl (by kernel_rfl) (by kernel_rfl) (by kernel_rfl) (fun _ _ _ h => h) rfl hS (fun w hS => st_nes (x := (gst xs1 (k : Int))) (y := (gst xs2 (k : Int))) (hb1 _ hm1).1 (hb2 _ hm2).1 (hb1 _ hm1).2.1 (hb2 _ hm2).2.1 (hF.tmp 20 rfl) (hF.tmp 24 rfl)) rfl ?_; clear hF; intro a hF
        refine r_end (by kernel_rfl) ?_; clear hS
        refine hK10 _ _ ?_
        refine wp_cond_split (hF.tmp 25 rfl) (fun hc25 => ?_) (fun hc25 => ?_)
        · have hk25_4 := hc25; try simp only [Bool.or_eq_true, Bool.and_eq_true, Bool.or_eq_false_iff, Bool.and_eq_false_iff, Bool.not_eq_true', Bool.not_eq_false', decide_eq_true_eq, decide_eq_false_iff_not, Bool.not_true, Bool.not_false] at hc25
          have hz := sameS_at (xs := xs1) (ys := xs2) (by omega) hc25
          refine wp_seq_k fun khK11 hK11 => ?_
          refine wp_region_lit ?_
          refine l_at hF rfl rfl rfl (x_assign rfl) ?_; clear hF; intro a hF
          refine wpList_nil ?_
          refine hK11 _ _ ?_
          refine wp_ret ?_
          try simp only [Exit.then, Exit.inBlock]
          exact fin_ret hF (res1 hF rfl rfl) ⟨by rw [hz] <;> rfl, hH.mods⟩
        · have hk25_5 := hc25; try simp only [Bool.or_eq_true, Bool.and_eq_true, Bool.or_eq_false_iff, Bool.and_eq_false_iff, Bool.not_eq_true', Bool.not_eq_false', decide_eq_true_eq, decide_eq_false_iff_not, Bool.not_true, Bool.not_false] at hc25
          refine wp_skip ?_
          refine hK9 _ _ ?_
          refine wp_region_lit ?_
          refine l_at hF rfl rfl rfl (x_move (hF.tmp 5 rfl)) ?_; clear hF; intro a hF
          refine l_at hF rfl rfl rfl (x_add (hF.tmp 15 rfl) rfl (w64 (by omega) (by omega))) ?_; clear hF; intro a hF
          refine l_at hF rfl rfl rfl (x_assign (hF.tmp 16 rfl)) ?_; clear hF; intro a hF
          refine wpList_nil ?_
          exact ⟨_, by omega, ⟨k + 1, rfl, by omega, sameS_step hll hc14 hq0_1 hc25, (((hF.bare.add hF 5 rfl).add hF 1 rfl).add hF 0 rfl), hH.sub _ (sub_cons (sub_cons (sub_nil _) 902 rfl) 901 rfl)⟩⟩
      · have hk14_6 := hc14; try simp only [Bool.or_eq_true, Bool.and_eq_true, Bool.or_eq_false_iff, Bool.and_eq_false_iff, Bool.not_eq_true', Bool.not_eq_false', decide_eq_true_eq, decide_eq_false_iff_not, Bool.not_true, Bool.not_false] at hc14
        obtain rfl : k = xs1.length := by omega
        have hz := sameS_yes hll hq0_1
        refine wp_exit ?_
        refine hK5 _ _ ?_
        refine wp_seq_k fun khK12 hK12 => ?_
        refine wp_region_lit ?_
        refine l_at hF rfl rfl rfl (x_assign rfl) ?_; clear hF; intro a hF
        refine wpList_nil ?_
        refine hK12 _ _ ?_
        refine wp_ret ?_
        try simp only [Exit.then, Exit.inBlock]
        exact fin_ret hF (res1 hF rfl rfl) ⟨by rw [hz] <;> rfl, hH.mods⟩

set_option maxRecDepth 100000 in
set_option maxHeartbeats 1000000 in
theorem radec_calls (w0 : World) {ok : Nat → Prop} {A : Option Addr} {bs : List Int} {c : Nat} (hrb : Rd (.int .u8) w0 ok A bs c) (hby : Byte bs) : Calls Tryd.prog 16 #[.slice A bs.length c] w0 fun e w' => ∃ v, e = .returned (.tuple #[v, .int .i64 (if (adecR bs).isSome then 0 else 12)]) ∧ Mods (fun _ => False) w0 w' ∧ RowOut StE 38 w0 w' v ((adecR bs).getD []) := by
  refine calls_of_wp Tryd.func16 rfl ?_
  have hF := Fr.enter #[.slice A bs.length c] 100 (slotsOf [.slice A bs.length c] 0) (Nat.le_of_ble_eq_true rfl) (fun i v h => by have h2 := (get_slotsOf _ 0 i v h).2; simpa only [List.getElem?_toArray, Nat.sub_zero] using h2)
  have hH := Hp.nil (fun _ => False) w0
  rw [Tryd.ntmps16]
  revert hF; generalize (⟨(#[.slice A bs.length c] : Array Value) ++ Array.replicate (100 - (#[.slice A bs.length c] : Array Value).size) undef, []⟩ : Act) = a; intro hF
  have hH := hH.arg 901 hrb.all (fun _ h => ⟨h, fun h => h⟩)
  have hleb := hrb.le; unfold maxLen at hleb
  refine wp_seq_k fun khK1 hK1 => ?_
  refine wp_region_lit ?_
  refine l_at hF rfl rfl rfl (x_assign rfl) ?_; clear hF; intro a hF
  refine l_at hF rfl rfl rfl (x_assign rfl) ?_; clear hF; intro a hF
  refine wpList_nil ?_
  refine hK1 _ _ ?_
  refine wp_seq_k fun khK2 hK2 => ?_
  refine wp_region_lit ?_
  refine l_at hF rfl rfl rfl (x_move (hF.tmp 0 rfl)) ?_; clear hF; intro a hF
  refine wpList_plain rfl fun K hK => ?_
  refine w_call hF (x_enter Tryd.func37 (by kernel_rfl) rfl (by simp only [List.map_toArray, List.map_cons, List.map_nil, hF.tmp 16 rfl] <;> rfl)) (refDec_calls _ ((hH.rd 901 rfl)) hby) rfl rfl ?_
  rintro _ w ⟨vr41, rfl, hm_, okr41, hr_, hf_, ho41_⟩; refine ⟨_, rfl, ?_⟩; clear hF; intro a hF; have hH := hH.newRow 41 hm_ hr_ hf_ ho41_; obtain ⟨Ar41, cr41, rfl⟩ := (hH.row 41 rfl).form
  refine hK _ _ ?_; clear hK K
  refine l_at hF rfl rfl rfl (x_move (hF.tmp 17 rfl)) ?_; clear hF; intro a hF
  refine l_at hF rfl rfl rfl (x_extract (hF.tmp 15 rfl) rfl) ?_; clear hF; intro a hF
  refine l_at hF rfl rfl rfl (x_extract (hF.tmp 15 rfl) rfl) ?_; clear hF; intro a hF
  refine l_at hF rfl rfl rfl (x_assign (hF.tmp 18 rfl)) ?_; clear hF; intro a hF
  refine l_at hF rfl rfl rfl (x_assign (hF.tmp 19 rfl)) ?_; clear hF; intro a hF
  refine wpList_nil ?_
  refine hK2 _ _ ?_
  refine wp_seq_k fun khK3 hK3 => ?_
  refine wp_seq_k fun khK4 hK4 => ?_
  refine wp_region_lit ?_
  refine l_at hF rfl rfl rfl (x_move (hF.tmp 5 rfl)) ?_; clear hF; intro a hF
  refine l_at hF rfl rfl rfl (x_neq (hF.tmp 20 rfl) rfl) ?_; clear hF; intro a hF
  refine l_at hF rfl rfl rfl (x_move (hF.tmp 21 rfl)) ?_; clear hF; intro a hF
  refine split_bool hF 22 rfl (fun hb22 => ?_) (fun hb22 => ?_)
  · have hc22 := hb22; try simp only [Bool.or_eq_true, Bool.and_eq_true, Bool.or_eq_false_iff, Bool.and_eq_false_iff, Bool.not_eq_true', Bool.not_eq_false', decide_eq_true_eq, decide_eq_false_iff_not, Bool.not_true, Bool.not_false] at hc22
    have hz : adecR bs = none := adec_none (by cases hd : decR bs with | none => rfl | some l => rw [hd] at hc22; exact absurd rfl hc22)
    refine l_offg hF ((wanted_of hF rfl rfl rfl rfl).trans (by rw [hb22]; rfl)) rfl rfl ?_; clear hF; intro a hF
    refine l_offg hF ((wanted_of hF rfl rfl rfl rfl).trans (by rw [hb22]; rfl)) rfl rfl ?_; clear hF; intro a hF
    refine l_offg hF ((wanted_of hF rfl rfl rfl rfl).trans (by rw [hb22]; rfl)) rfl rfl ?_; clear hF; intro a hF
    refine l_at hF rfl rfl rfl (x_pickT (hF.tmp 22 rfl) hb22 rfl) ?_; clear hF; intro a hF
    refine wpList_nil ?_
    refine hK4 _ _ ?_
    refine wp_cond_true (hF.tmp 26 rfl) ?_
    refine wp_seq_k fun khK5 hK5 => ?_
    refine wp_region_lit ?_
    refine l_at hF rfl rfl rfl (x_assign rfl) ?_; clear hF; intro a hF
    refine l_at hF rfl rfl rfl (x_assign rfl) ?_; clear hF; intro a hF
    refine wpList_nil ?_
    refine hK5 _ _ ?_
    refine wp_ret ?_
    try simp only [Exit.then, Exit.inBlock]
    exact fin_ret hF (res2 hF rfl rfl rfl) ⟨.slice none 0 0, by rw [hz] <;> rfl, hH.mods, by rw [hz]; exact RowOut.nil _ _ _ _⟩
  · have hc22 := hb22; try simp only [Bool.or_eq_true, Bool.and_eq_true, Bool.or_eq_false_iff, Bool.and_eq_false_iff, Bool.not_eq_true', Bool.not_eq_false', decide_eq_true_eq, decide_eq_false_iff_not, Bool.not_true, Bool.not_false] at hc22
    obtain ⟨dl, hdl⟩ := dec_zero hc22
    refine l_atg hF ((wanted_of hF rfl rfl rfl rfl).trans (by rw [hb22]; rfl)) rfl rfl (x_move (hF.tmp 4 rfl)) ?_; clear hF; intro a hF
    refine l_atg hF ((wanted_of hF rfl rfl rfl rfl).trans (by rw [hb22]; rfl)) rfl rfl (x_len_slice Tryd.underlying62 (hF.tmp 23 rfl)) ?_; clear hF; intro a hF
    refine l_atg hF ((wanted_of hF rfl rfl rfl rfl).trans (by rw [hb22]; rfl)) rfl rfl (x_gtr (hF.tmp 24 rfl) rfl) ?_; clear hF; intro a hF
    refine l_at hF rfl rfl rfl (x_pickF (hF.tmp 22 rfl) hb22 (hF.tmp 25 rfl)) ?_; clear hF; intro a hF
    refine wpList_nil ?_
    refine hK4 _ _ ?_
    refine wp_cond_split (hF.tmp 26 rfl) (fun hc26 => ?_) (fun hc26 => ?_)
    · have hk26_1 := hc26; try simp only [Bool.or_eq_true, Bool.and_eq_true, Bool.or_eq_false_iff, Bool.and_eq_false_iff, Bool.not_eq_true', Bool.not_eq_false', decide_eq_true_eq, decide_eq_false_iff_not, Bool.not_true, Bool.not_false] at hc26
      have hz := adec_many hdl (by rw [hdl] at hc26; exact hc26)
      refine wp_seq_k fun khK6 hK6 => ?_
      refine wp_region_lit ?_
      refine l_at hF rfl rfl rfl (x_assign rfl) ?_; clear hF; intro a hF
      refine l_at hF rfl rfl rfl (x_assign rfl) ?_; clear hF; intro a hF
      refine wpList_nil ?_
      refine hK6 _ _ ?_
      refine wp_ret ?_
      try simp only [Exit.then, Exit.inBlock]
      exact fin_ret hF (res2 hF rfl rfl rfl) ⟨.slice none 0 0, by rw [hz] <;> rfl, hH.mods, by rw [hz]; exact RowOut.nil _ _ _ _⟩
    · have hk26_2 := hc26; try simp only [Bool.or_eq_true, Bool.and_eq_true, Bool.or_eq_false_iff, Bool.and_eq_false_iff, Bool.not_eq_true', Bool.not_eq_false', decide_eq_true_eq, decide_eq_false_iff_not, Bool.not_true, Bool.not_false] at hc26
      have h4 : ¬ 4 < (dl.length : Int) := by rw [hdl] at hc26; exact hc26
      have hsm : ∀ x ∈ dl, x.2.length ≤ 2000 := fun x hx => (okF_parts (List.all_eq_true.1 (enc_parts (enc_dec hby hdl)).1 x hx)).2.2
      refine wp_skip ?_
      refine hK3 _ _ ?_
      refine wp_seq_k fun khK7 hK7 => ?_
      refine wp_region_lit ?_
      refine l_at hF rfl rfl rfl (x_assign rfl) ?_; clear hF; intro a hF
      rw [hdl, Option.getD_some] at hF hH
      have hH := hH.freeze 41 rfl (fun kb => okr41 kb ∨ (Value.slice Ar41 dl.length cr41).ownBlock = some kb) (fun kb => Iff.rfl)
      have hH := hH.row0 6 StE 38
      refine wpList_nil ?_
      refine hK7 _ _ ?_
      refine wp_seq_k fun khK8 hK8 => ?_
      refine wp_seq_k fun khK9 hK9 => ?_
      refine wp_region_lit ?_
      refine l_at hF rfl rfl rfl (x_assign rfl) ?_; clear hF; intro a hF
      refine wpList_nil ?_
      refine hK9 _ _ ?_
      refine wp_block ?_
      refine wp_loop_ghost (fun n_ a w => ∃ k : Nat, ∃ out : List StepD, ∃ v6 : Value, n_ = dl.length - k ∧ (k ≤ dl.length) ∧ (RInv dl k out) ∧ Fr 100 a [(0, .slice A bs.length c), (4, .slice Ar41 dl.length cr41), (6, v6), (7, .int .i64 (k : Int))] ∧ Hp (fun _ => False) w0 w [(901, .rd_ (.int .u8) A bs c (fun k => k < w0.heap.size)), (41, .rd_ FE Ar41 dl cr41 (fun kb => okr41 kb ∨ (Value.slice Ar41 dl.length cr41).ownBlock = some kb)), (6, .row StE 38 v6 out (fun _ => False))]) (dl.length) ?_ ?_
      · exact ⟨0, [], .slice none 0 0, rfl, by omega, RInv.nil _, ((((hF.bare.add hF 7 rfl).add hF 6 rfl).add hF 4 rfl).add hF 0 rfl), hH.sub _ (sub_cons (sub_cons (sub_cons (sub_nil _) 6 rfl) 41 rfl) 901 rfl)⟩
      · rintro _ a w ⟨k, out, v6, rfl, hq0_0, hq0_1, hF, hH⟩
        refine wp_seq_k fun khK10 hK10 => ?_
        refine wp_seq_k fun khK11 hK11 => ?_
        refine wp_region_lit ?_
        refine l_at hF rfl rfl rfl (x_move (hF.tmp 7 rfl)) ?_; clear hF; intro a hF
        refine l_at hF rfl rfl rfl (x_move (hF.tmp 4 rfl)) ?_; clear hF; intro a hF
        refine l_at hF rfl rfl rfl (x_len_slice Tryd.underlying62 (hF.tmp 28 rfl)) ?_; clear hF; intro a hF
        refine l_at hF rfl rfl rfl (x_lss (hF.tmp 27 rfl) (hF.tmp 29 rfl)) ?_; clear hF; intro a hF
        refine wpList_nil ?_
        refine hK11 _ _ ?_
        refine wp_cond_split (hF.tmp 30 rfl) (fun hc30 => ?_) (fun hc30 => ?_)
        · have hk30_3 := hc30; try simp only [Bool.or_eq_true, Bool.and_eq_true, Bool.or_eq_false_iff, Bool.and_eq_false_iff, Bool.not_eq_true', Bool.not_eq_false', decide_eq_true_eq, decide_eq_false_iff_not, Bool.not_true, Bool.not_false] at hc30
          refine wp_skip ?_
          refine hK10 _ _ ?_
          refine wp_seq_k fun khK12 hK12 => ?_
          refine wp_block ?_
          refine wp_seq_k fun khK13 hK13 => ?_
          refine wp_region_lit ?_
          obtain ⟨fA1, fc1, hfr1, hf1_0, hf1_1, hfw1⟩ := Rd.fld ((hH.rd 41 rfl)) (gf_some (xs := dl) (i := (k : Int)) (by omega) (by omega))
          have hH := hH.subrd 41 rfl 1001 hfr1 (fun _ h => h)
          have hH := hH.subcels 41 rfl 1499 hfw1 (Rd.inok ((hH.rd 41 rfl)) (by omega) _)
          have hH := hH.subcel 41 rfl 1500 hf1_0 (Rd.inok ((hH.rd 41 rfl)) (by omega) _)
          have hH := hH.subcel 41 rfl 1501 hf1_1 (Rd.inok ((hH.rd 41 rfl)) (by omega) _)
          have hmem : (gf dl (k : Int)) ∈ dl := List.mem_of_getElem? (gf_some (xs := dl) (i := (k : Int)) (by omega) (by omega))
          have hbf := fld_bytes hby hdl _ hmem
          have hsf := hsm _ hmem
          refine l_at hF rfl rfl rfl (x_move (hF.tmp 4 rfl)) ?_; clear hF; intro a hF
          refine l_at hF rfl rfl rfl (x_move (hF.tmp 7 rfl)) ?_; clear hF; intro a hF
          refine l_at hF rfl rfl rfl (x_iaddr_A Tryd.underlying62 ty64 ((hH.rd 41 rfl)) (hF.tmp 33 rfl) (hF.tmp 34 rfl) (by omega) (by omega) _) ?_; clear hF; intro a hF
          refine l_at hF rfl rfl rfl (x_faddrA ((hH.rd 41 rfl)) (by omega) _ Tryd.underlying64 rfl ty29 (by decide) (hF.tmp 35 rfl) rfl) ?_; clear hF; intro a hF
          refine l_at hF rfl rfl rfl (x_load1 ty29 (hF.tmp 36 rfl) (hH.holds 1501 _ rfl)) ?_; clear hF; intro a hF
          refine l_at hF rfl rfl rfl (x_b2s Tryd.underlying29 Tryd.underlying5 Tryd.underlying9 ((hH.rd 1001 rfl)) (hF.tmp 37 rfl)) ?_; clear hF; intro a hF
          refine l_at hF rfl rfl rfl (x_assign (hF.tmp 38 rfl)) ?_; clear hF; intro a hF
          refine wpList_nil ?_
          refine hK13 _ _ ?_
          refine wp_seq_k fun khK14 hK14 => ?_
          refine wp_seq_k fun khK15 hK15 => ?_
          refine wp_region_lit ?_
          refine l_at hF rfl rfl rfl (x_move (hF.tmp 8 rfl)) ?_; clear hF; intro a hF
          refine l_at hF rfl rfl rfl (x_len_sn (xs := ((gf dl (k : Int)).2)) Tryd.underlying9 (hF.tmp 39 rfl)) ?_; clear hF; intro a hF
          refine l_at hF rfl rfl rfl (x_lss (hF.tmp 40 rfl) rfl) ?_; clear hF; intro a hF
          refine l_at hF rfl rfl rfl (x_move (hF.tmp 41 rfl)) ?_; clear hF; intro a hF
          refine split_bool hF 42 rfl (fun hb42 => ?_) (fun hb42 => ?_)
          · have hc42 := hb42; try simp only [Bool.or_eq_true, Bool.and_eq_true, Bool.or_eq_false_iff, Bool.and_eq_false_iff, Bool.not_eq_true', Bool.not_eq_false', decide_eq_true_eq, decide_eq_false_iff_not, Bool.not_true, Bool.not_false] at hc42
            have hz := adec_stop hdl h4 hc30 (stepF_short (.inl (by omega)))
            refine l_offg hF ((wanted_of hF rfl rfl rfl rfl).trans (by rw [hb42]; rfl)) rfl rfl ?_; clear hF; intro a hF
            refine l_offg hF ((wanted_of hF rfl rfl rfl rfl).trans (by rw [hb42]; rfl)) rfl rfl ?_; clear hF; intro a hF
            refine l_offg hF ((wanted_of hF rfl rfl rfl rfl).trans (by rw [hb42]; rfl)) rfl rfl ?_; clear hF; intro a hF
            refine l_offg hF ((wanted_of hF rfl rfl rfl rfl).trans (by rw [hb42]; rfl)) rfl rfl ?_; clear hF; intro a hF
            refine l_offg hF ((wanted_of hF rfl rfl rfl rfl).trans (by rw [hb42]; rfl)) rfl rfl ?_; clear hF; intro a hF
            refine l_offg hF ((wanted_of hF rfl rfl rfl rfl).trans (by rw [hb42]; rfl)) rfl rfl ?_; clear hF; intro a hF
            refine l_offg hF ((wanted_of hF rfl rfl rfl rfl).trans (by rw [hb42]; rfl)) rfl rfl ?_; clear hF; intro a hF
            refine l_at hF rfl rfl rfl (x_pickT (hF.tmp 42 rfl) hb42 rfl) ?_; clear hF; intro a hF
            refine wpList_nil ?_
            refine hK15 _ _ ?_
            refine wp_cond_true (hF.tmp 50 rfl) ?_
            refine wp_seq_k fun khK16 hK16 => ?_
            refine wp_region_lit ?_
            refine l_at hF rfl rfl rfl (x_assign rfl) ?_; clear hF; intro a hF
            refine l_at hF rfl rfl rfl (x_assign rfl) ?_; clear hF; intro a hF
            refine wpList_nil ?_
            refine hK16 _ _ ?_
            refine wp_ret ?_
            try simp only [Exit.then, Exit.inBlock]
            exact fin_ret hF (res2 hF rfl rfl rfl) ⟨.slice none 0 0, by rw [hz] <;> rfl, hH.mods, by rw [hz]; exact RowOut.nil _ _ _ _⟩
          · have hc42 := hb42; try simp only [Bool.or_eq_true, Bool.and_eq_true, Bool.or_eq_false_iff, Bool.and_eq_false_iff, Bool.not_eq_true', Bool.not_eq_false', decide_eq_true_eq, decide_eq_false_iff_not, Bool.not_true, Bool.not_false] at hc42
            refine l_atg hF ((wanted_of hF rfl rfl rfl rfl).trans (by rw [hb42]; rfl)) rfl rfl (x_move (hF.tmp 8 rfl)) ?_; clear hF; intro a hF
            refine l_atg hF ((wanted_of hF rfl rfl rfl rfl).trans (by rw [hb42]; rfl)) rfl rfl (x_len_sn (xs := ((gf dl (k : Int)).2)) Tryd.underlying9 (hF.tmp 43 rfl)) ?_; clear hF; intro a hF
            refine l_atg hF ((wanted_of hF rfl rfl rfl rfl).trans (by rw [hb42]; rfl)) rfl rfl (x_move (hF.tmp 8 rfl)) ?_; clear hF; intro a hF
            refine l_atg hF ((wanted_of hF rfl rfl rfl rfl).trans (by rw [hb42]; rfl)) rfl rfl (x_idxS (xs := ((gf dl (k : Int)).2)) Tryd.underlying9 (hF.tmp 45 rfl) rfl hbf (by omega) (by omega)) ?_; clear hF; intro a hF
            refine l_atg hF ((wanted_of hF rfl rfl rfl rfl).trans (by rw [hb42]; rfl)) rfl rfl (x_conv Tryd.underlying3 ⟨_, Tryd.underlying5⟩ (hF.tmp 46 rfl) (w64 (by have := (hbf.gi 0).1; have := (hbf.gi 0).2; omega) (by have := (hbf.gi 0).1; have := (hbf.gi 0).2; omega))) ?_; clear hF; intro a hF
            refine l_atg hF ((wanted_of hF rfl rfl rfl rfl).trans (by rw [hb42]; rfl)) rfl rfl (x_add rfl (hF.tmp 47 rfl) (w64 (by have := (hbf.gi 0).1; have := (hbf.gi 0).2; omega) (by have := (hbf.gi 0).1; have := (hbf.gi 0).2; omega))) ?_; clear hF; intro a hF
            refine l_atg hF ((wanted_of hF rfl rfl rfl rfl).trans (by rw [hb42]; rfl)) rfl rfl (x_lss (hF.tmp 44 rfl) (hF.tmp 48 rfl)) ?_; clear hF; intro a hF
            refine l_at hF rfl rfl rfl (x_pickF (hF.tmp 42 rfl) hb42 (hF.tmp 49 rfl)) ?_; clear hF; intro a hF
            refine wpList_nil ?_
            refine hK15 _ _ ?_
            refine wp_cond_split (hF.tmp 50 rfl) (fun hc50 => ?_) (fun hc50 => ?_)
            · have hk50_4 := hc50; try simp only [Bool.or_eq_true, Bool.and_eq_true, Bool.or_eq_false_iff, Bool.and_eq_false_iff, Bool.not_eq_true', Bool.not_eq_false', decide_eq_true_eq, decide_eq_false_iff_not, Bool.not_true, Bool.not_false] at hc50
              have hz := adec_stop hdl h4 hc30 (stepF_short (.inr (by omega)))
              refine wp_seq_k fun khK17 hK17 => ?_
              refine wp_region_lit ?_
              refine l_at hF rfl rfl rfl (x_assign rfl) ?_; clear hF; intro a hF
              refine l_at hF rfl rfl rfl (x_assign rfl) ?_; clear hF; intro a hF
              refine wpList_nil ?_
              refine hK17 _ _ ?_
              refine wp_ret ?_
              try simp only [Exit.then, Exit.inBlock]
              exact fin_ret hF (res2 hF rfl rfl rfl) ⟨.slice none 0 0, by rw [hz] <;> rfl, hH.mods, by rw [hz]; exact RowOut.nil _ _ _ _⟩
            · have hk50_5 := hc50; try simp only [Bool.or_eq_true, Bool.and_eq_true, Bool.or_eq_false_iff, Bool.and_eq_false_iff, Bool.not_eq_true', Bool.not_eq_false', decide_eq_true_eq, decide_eq_false_iff_not, Bool.not_true, Bool.not_false] at hc50
              refine wp_skip ?_
              refine hK14 _ _ ?_
              refine wp_seq_k fun khK18 hK18 => ?_
              refine r_start [(901, .rd_ (.int .u8) A bs c (fun k => k < w0.heap.size)), (41, .rd_ FE Ar41 dl cr41 (fun kb => okr41 kb ∨ (Value.slice Ar41 dl.length cr41).ownBlock = some kb)), (1001, .rd_ (.int .u8) (fA1) (gf dl (k : Int)).2 fc1 (fun kb => okr41 kb ∨ (Value.slice Ar41 dl.length cr41).ownBlock = some kb)), (1499, .cels (adr Ar41 ((k : Int).toNat * 2)) #[.int .i64 (gf dl (k : Int)).1, .slice fA1 (gf dl (k : Int)).2.length fc1]), (1500, .cel (adr Ar41 ((k : Int).toNat * 2)) (.int .i64 (gf dl (k : Int)).1)), (1501, .cel (adr Ar41 ((k : Int).toNat * 2 + 1)) (.slice fA1 (gf dl (k : Int)).2.length fc1))] (by kernel_rfl) hH fun hH => ?_
              have hS : SL [(901, .rd_ (.int .u8) A bs c (fun k => k < w0.heap.size)), (41, .rd_ FE Ar41 dl cr41 (fun kb => okr41 kb ∨ (Value.slice Ar41 dl.length cr41).ownBlock = some kb)), (1001, .rd_ (.int .u8) (fA1) (gf dl (k : Int)).2 fc1 (fun kb => okr41 kb ∨ (Value.slice Ar41 dl.length cr41).ownBlock = some kb)), (1499, .cels (adr Ar41 ((k : Int).toNat * 2)) #[.int .i64 (gf dl (k : Int)).1, .slice fA1 (gf dl (k : Int)).2.length fc1]), (1500, .cel (adr Ar41 ((k : Int).toNat * 2)) (.int .i64 (gf dl (k : Int)).1)), (1501, .cel (adr Ar41 ((k : Int).toNat * 2 + 1)) (.slice fA1 (gf dl (k : Int)).2.length fc1))] _ := SL.of hH (sub_cons (sub_cons (sub_cons (sub_cons (sub_cons (sub_cons (sub_nil _) 1501 rfl) 1500 rfl) 1499 rfl) 1001 rfl) 41 rfl) 901 rfl)
              refine r_take 0 hF rfl rfl rfl (by kernel_rfl) (by kernel_rfl) (by kernel_rfl) (fun _ _ _ h => h) rfl hS (fun w hS => x_move (hF.tmp 4 rfl)) rfl ?_; clear hF; intro a hF
              refine r_take 1 hF rfl rfl rfl (by kernel_rfl) (by kernel_rfl) (by kernel_rfl) (fun _ _ _ h => h) rfl hS (fun w hS => x_move (hF.tmp 7 rfl)) rfl ?_; clear hF; intro a hF
              refine r_take 2 hF rfl rfl rfl (by kernel_rfl) (by kernel_rfl) (by kernel_rfl) (fun _ _ _ h => h) rfl hS (fun w hS => x_iaddr_A Tryd.underlying62 ty64 ((hH.rd 41 rfl)) (hF.tmp 51 rfl) (hF.tmp 52 rfl) (by omega) (by omega) _) rfl ?_; clear hF; intro a hF
              refine r_take 3 hF rfl rfl rfl (by kernel_rfl) (by kernel_rfl) (by kernel_rfl) (fun _ _ _ h => h) rfl hS (fun w hS => x_faddrA ((SL.rd hS 41 rfl)) (by omega) _ Tryd.underlying64 rfl ty3 (by decide) (hF.tmp 53 rfl) rfl) rfl ?_; clear hF; intro a hF
              refine r_take 4 hF rfl rfl rfl (by kernel_rfl) (by kernel_rfl) (by kernel_rfl) (fun _ _ _ h => h) rfl hS (fun w hS => x_load1 ty3 (hF.tmp 54 rfl) (hS 1500 _ rfl)) rfl ?_; clear hF; intro a hF
              refine r_take 5 hF rfl rfl rfl (by kernel_rfl) (by kernel_rfl) (by kernel_rfl) (fun _ _ _ h => h) rfl hS (fun w hS => x_move (hF.tmp 8 rfl)) rfl ?_; clear hF; intro a hF
              refine r_take 6 hF rfl rfl rfl (by kernel_rfl) (by kernel_rfl) (by kernel_rfl) (fun _ _ _ h => h) rfl hS (fun w hS => x_move (hF.tmp 8 rfl)) rfl ?_; clear hF; intro a hF
              refine r_take 7 hF rfl rfl rfl (by kernel_rfl) (by kernel_rfl) (by kernel_rfl) (fun _ _ _ h => h) rfl hS (fun w hS => x_idxS (xs := ((gf dl (k : Int)).2)) Tryd.underlying9 (hF.tmp 57 rfl) rfl hbf (by omega) (by omega)) rfl ?_; clear hF; intro a hF
              refine r_take 8 hF rfl rfl rfl (by kernel_rfl) (by kernel_rfl) (by kernel_rfl) (fun _ _ _ h => h) rfl hS (fun w hS => x_conv Tryd.underlying3 ⟨_, Tryd.underlying5⟩ (hF.tmp 58 rfl) (w64 (by have := (hbf.gi 0).1; have := (hbf.gi 0).2; omega) (by have := (hbf.gi 0).1; have := (hbf.gi 0).2; omega))) rfl ?_; clear hF; intro a hF
              refine r_take 9 hF rfl rfl rfl (by kernel_rfl) (by kernel_rfl) (by kernel_rfl) (fun _ _ _ h => h) rfl hS (fun w hS => x_add rfl (hF.tmp 59 rfl) (w64 (by have := (hbf.gi 0).1; have := (hbf.gi 0).2; omega) (by have := (hbf.gi 0).1; have := (hbf.gi 0).2; omega))) rfl ?_; clear hF; intro a hF
              refine r_take 10 hF rfl rfl rfl (by kernel_rfl) (by kernel_rfl) (by kernel_rfl) (fun _ _ _ h => h) rfl hS (fun w hS => x_sliceSlh (xs := ((gf dl (k : Int)).2)) Tryd.underlying9 (hF.tmp 56 rfl) rfl (hF.tmp 60 rfl) (by omega) (by have := (hbf.gi 0).1; have := (hbf.gi 0).2; omega) (by omega)) rfl ?_; clear hF; intro a hF
              refine r_take 11 hF rfl rfl rfl (by kernel_rfl) (by kernel_rfl) (by kernel_rfl) (fun _ _ _ h => h) rfl hS (fun w hS => x_buildS (cells := #[.int .i64 (gf dl (k : Int)).1, .string (strOfNums (keyF (gf dl (k : Int)))), .string (strOfNums []), .int .i64 0]) (places := #[(0, 1), (1, 1), (2, 1), (3, 1)]) Tryd.underlying38 ty38 (by kernel_rfl) (by simp only [List.map_toArray, List.map_cons, List.map_nil, hF.tmp 55 rfl, hF.tmp 61 rfl] <;> rfl) rfl) rfl ?_; clear hF; intro a hF
              refine r_do 12 rfl (by kernel_rfl) rfl rfl ?_
              refine w_alloc 9 hF hH rfl ty38 ?_
              clear hF hH; intro a w b9 hF hH
              clear hS; have hS : SL _ _ := SL.of hH (sub_cons (sub_cons (sub_cons (sub_cons (sub_cons (sub_cons (sub_nil _) 1501 rfl) 1500 rfl) 1499 rfl) 1001 rfl) 41 rfl) 901 rfl); refine ⟨hS, ?_⟩
              refine r_do 13 rfl (by kernel_rfl) rfl rfl ?_
              refine w_storeA 9 hH ty38 rfl (hF.tmp 9 rfl) (hF.tmp 62 rfl) rfl (by simp [Value.cells, Value.oneCell']) rfl ?_
              clear hH; intro w hH
              clear hS; have hS : SL _ _ := SL.of hH (sub_cons (sub_cons (sub_cons (sub_cons (sub_cons (sub_cons (sub_nil _) 1501 rfl) 1500 rfl) 1499 rfl) 1001 rfl) 41 rfl) 901 rfl); refine ⟨hS, ?_⟩
              refine r_end (by kernel_rfl) ?_; clear hS
              refine hK18 _ _ ?_
              refine wp_seq_k fun khK19 hK19 => ?_
              refine wp_region_lit ?_
              refine l_at hF rfl rfl rfl (x_move (hF.tmp 8 rfl)) ?_; clear hF; intro a hF
              refine l_at hF rfl rfl rfl (x_move (hF.tmp 8 rfl)) ?_; clear hF; intro a hF
              refine l_at hF rfl rfl rfl (x_idxS (xs := ((gf dl (k : Int)).2)) Tryd.underlying9 (hF.tmp 64 rfl) rfl hbf (by omega) (by omega)) ?_; clear hF; intro a hF
              refine l_at hF rfl rfl rfl (x_conv Tryd.underlying3 ⟨_, Tryd.underlying5⟩ (hF.tmp 65 rfl) (w64 (by have := (hbf.gi 0).1; have := (hbf.gi 0).2; omega) (by have := (hbf.gi 0).1; have := (hbf.gi 0).2; omega))) ?_; clear hF; intro a hF
              refine l_at hF rfl rfl rfl (x_add rfl (hF.tmp 66 rfl) (w64 (by have := (hbf.gi 0).1; have := (hbf.gi 0).2; omega) (by have := (hbf.gi 0).1; have := (hbf.gi 0).2; omega))) ?_; clear hF; intro a hF
              refine l_at hF rfl rfl rfl (x_sliceSl (xs := ((gf dl (k : Int)).2)) Tryd.underlying9 (hF.tmp 63 rfl) (hF.tmp 67 rfl) (by have := (hbf.gi 0).1; have := (hbf.gi 0).2; omega) (by omega)) ?_; clear hF; intro a hF
              refine l_at hF rfl rfl rfl (x_assign (hF.tmp 68 rfl)) ?_; clear hF; intro a hF
              refine wpList_nil ?_
              refine hK19 _ _ ?_
              refine wp_seq_k fun khK20 hK20 => ?_
              refine wp_seq_k fun khK21 hK21 => ?_
              refine wp_region_lit ?_
              refine l_at hF rfl rfl rfl (x_faddr Tryd.underlying38 rfl ty36 (by decide) (hF.tmp 9 rfl) rfl) ?_; clear hF; intro a hF
              refine l_at hF rfl rfl rfl (x_load1 ty36 (hF.tmp 69 rfl) (blk_cell (hH.at 9 rfl) 0 rfl)) ?_; clear hF; intro a hF
              refine l_at hF rfl rfl rfl (x_eql (hF.tmp 70 rfl) rfl) ?_; clear hF; intro a hF
              refine wpList_nil ?_
              refine hK21 _ _ ?_
              refine wp_cond_split (hF.tmp 71 rfl) (fun hc71 => ?_) (fun hc71 => ?_)
              · have hk71_6 := hc71; try simp only [Bool.or_eq_true, Bool.and_eq_true, Bool.or_eq_false_iff, Bool.and_eq_false_iff, Bool.not_eq_true', Bool.not_eq_false', decide_eq_true_eq, decide_eq_false_iff_not, Bool.not_true, Bool.not_false] at hc71
                refine wp_seq_k fun khK22 hK22 => ?_
                refine wp_region_lit ?_
                refine l_at hF rfl rfl rfl (x_move (hF.tmp 10 rfl)) ?_; clear hF; intro a hF
                refine wpList_plain rfl fun K hK => ?_
                refine w_call hF (x_enter Tryd.func38 (by kernel_rfl) rfl (by simp only [List.map_toArray, List.map_cons, List.map_nil, hF.tmp 73 rfl] <;> rfl)) (rnumber_calls (xs := (restF (gf dl (k : Int)))) _ (by unfold restF; rw [List.length_drop]; omega) (hbf.drop _)) rfl rfl ?_
                rintro _ w ⟨vn, rfl, hm_, hfv, hvn⟩; refine ⟨_, rfl, ?_⟩; clear hF; intro a hF; have hH := hH.same hm_
                refine hK _ _ ?_; clear hK K
                refine l_at hF rfl rfl rfl (x_move (hF.tmp 74 rfl)) ?_; clear hF; intro a hF
                refine l_at hF rfl rfl rfl (x_extract (hF.tmp 72 rfl) rfl) ?_; clear hF; intro a hF
                refine l_at hF rfl rfl rfl (x_extract (hF.tmp 72 rfl) rfl) ?_; clear hF; intro a hF
                refine l_at hF rfl rfl rfl (x_assign (hF.tmp 75 rfl)) ?_; clear hF; intro a hF
                refine l_at hF rfl rfl rfl (x_assign (hF.tmp 76 rfl)) ?_; clear hF; intro a hF
                refine wpList_nil ?_
                refine hK22 _ _ ?_
                refine wp_region_lit ?_
                refine l_at hF rfl rfl rfl (x_move (hF.tmp 11 rfl)) ?_; clear hF; intro a hF
                refine l_at hF rfl rfl rfl (x_faddr Tryd.underlying38 rfl ty2 (by decide) (hF.tmp 9 rfl) rfl) ?_; clear hF; intro a hF
                refine wpList_plain rfl fun K hK => ?_
                refine w_store 9 hH ty2 rfl (hF.tmp 78 rfl) (hF.tmp 77 rfl) rfl (one1 rfl rfl) (by first | decide | exact Nat.le_of_ble_eq_true rfl) ?_
                clear hH; intro w hH
                refine hK _ _ ?_; clear hK K
                have hz := stepF_add (f := (gf dl (k : Int))) (by omega) (by omega) hc71 hvn
                have hsb := sa_bytes hbf hfv
                refine wpList_nil ?_
                refine hK20 _ _ ?_
                refine wp_region_lit ?_
                refine l_at hF rfl rfl rfl (x_move (hF.tmp 6 rfl)) ?_; clear hF; intro a hF
                refine l_at hF rfl rfl rfl (x_loadn ty38 (hF.tmp 9 rfl) rfl (blk_whole (hH.at 9 rfl))) ?_; clear hF; intro a hF
                refine wpList_plain rfl fun K hK => ?_
                refine w_lit1 83 StE (((gf dl (k : Int)).1, keyF (gf dl (k : Int)), [], vn) : StepD) #[.int .i64 (((gf dl (k : Int)).1, keyF (gf dl (k : Int)), [], vn) : StepD).1, .string (strOfNums (((gf dl (k : Int)).1, keyF (gf dl (k : Int)), [], vn) : StepD).2.1), .string (strOfNums (((gf dl (k : Int)).1, keyF (gf dl (k : Int)), [], vn) : StepD).2.2.1), .int .i64 (((gf dl (k : Int)).1, keyF (gf dl (k : Int)), [], vn) : StepD).2.2.2] (fun _ => False) hF hH rfl Tryd.underlying28 ty38 (by simp only [List.map_toArray, List.map_cons, List.map_nil, hF.tmp 82 rfl] <;> rfl) (by decide) (by kernel_rfl) (st_mk (((gf dl (k : Int)).1, keyF (gf dl (k : Int)), [], vn) : StepD)) (fun kb hk => hk.elim) ?_
                clear hF hH; intro a w b83 hF hb83_ hH
                refine hK _ _ ?_; clear hK K
                refine wpList_plain rfl fun K hK => ?_
                refine w_append 6 83 (xs := out) (ys := ([(((gf dl (k : Int)).1, keyF (gf dl (k : Int)), [], vn) : StepD)])) hF hH rfl Tryd.underlying28 ty38 rfl rfl rfl rfl ((hH.rd 83 rfl)) (by intro k_ hk_; exact .inr hk_) (hF.tmp 81 rfl) (hF.tmp 83 rfl) (by rw [hq0_1.len]; simp only [List.length_cons, List.length_nil]; omega) (by rw [hq0_1.len]; simp only [List.length_cons, List.length_nil, maxLen]; omega) (fun _ => False) (fun w' v' h => st_any h) (fun k_ hk_ => hk_.elim) ?_
                clear hF hH; intro a w v84 hF hH
                refine hK _ _ ?_; clear hK K
                refine l_at hF rfl rfl rfl (x_assign (hF.tmp 84 rfl)) ?_; clear hF; intro a hF
                refine wpList_nil ?_
                refine hK12 _ _ ?_
                refine wp_region_lit ?_
                refine l_at hF rfl rfl rfl (x_move (hF.tmp 7 rfl)) ?_; clear hF; intro a hF
                refine l_at hF rfl rfl rfl (x_add (hF.tmp 31 rfl) rfl (w64 (by omega) (by omega))) ?_; clear hF; intro a hF
                refine l_at hF rfl rfl rfl (x_assign (hF.tmp 32 rfl)) ?_; clear hF; intro a hF
                refine wpList_nil ?_
                exact ⟨_, by omega, ⟨k + 1, out ++ [(((gf dl (k : Int)).1, keyF (gf dl (k : Int)), [], vn) : StepD)], v84, rfl, by omega, hq0_1.step hz.2 hsb, ((((hF.bare.add hF 7 rfl).add hF 6 rfl).add hF 4 rfl).add hF 0 rfl), hH.sub _ (sub_cons (sub_cons (sub_cons (sub_nil _) 6 rfl) 41 rfl) 901 rfl)⟩⟩
              · have hk71_7 := hc71; try simp only [Bool.or_eq_true, Bool.and_eq_true, Bool.or_eq_false_iff, Bool.and_eq_false_iff, Bool.not_eq_true', Bool.not_eq_false', decide_eq_true_eq, decide_eq_false_iff_not, Bool.not_true, Bool.not_false] at hc71
                refine wp_region_lit ?_
                refine l_at hF rfl rfl rfl (x_move (hF.tmp 10 rfl)) ?_; clear hF; intro a hF
                refine l_at hF rfl rfl rfl (x_faddr Tryd.underlying38 rfl ty9 (by decide) (hF.tmp 9 rfl) rfl) ?_; clear hF; intro a hF
                refine wpList_plain rfl fun K hK => ?_
                refine w_store 9 hH ty9 rfl (hF.tmp 80 rfl) (hF.tmp 79 rfl) rfl (one1 rfl rfl) (by first | decide | exact Nat.le_of_ble_eq_true rfl) ?_
                clear hH; intro w hH
                refine hK _ _ ?_; clear hK K
                have hz := stepF_val (f := (gf dl (k : Int))) (by omega) (by omega) hc71
                have hsb := sv_bytes hbf
                refine wpList_nil ?_
                refine hK20 _ _ ?_
                refine wp_region_lit ?_
                refine l_at hF rfl rfl rfl (x_move (hF.tmp 6 rfl)) ?_; clear hF; intro a hF
                refine l_at hF rfl rfl rfl (x_loadn ty38 (hF.tmp 9 rfl) rfl (blk_whole (hH.at 9 rfl))) ?_; clear hF; intro a hF
                refine wpList_plain rfl fun K hK => ?_
                refine w_lit1 83 StE (((gf dl (k : Int)).1, keyF (gf dl (k : Int)), restF (gf dl (k : Int)), 0) : StepD) #[.int .i64 (((gf dl (k : Int)).1, keyF (gf dl (k : Int)), restF (gf dl (k : Int)), 0) : StepD).1, .string (strOfNums (((gf dl (k : Int)).1, keyF (gf dl (k : Int)), restF (gf dl (k : Int)), 0) : StepD).2.1), .string (strOfNums (((gf dl (k : Int)).1, keyF (gf dl (k : Int)), restF (gf dl (k : Int)), 0) : StepD).2.2.1), .int .i64 (((gf dl (k : Int)).1, keyF (gf dl (k : Int)), restF (gf dl (k : Int)), 0) : StepD).2.2.2] (fun _ => False) hF hH rfl Tryd.underlying28 ty38 (by simp only [List.map_toArray, List.map_cons, List.map_nil, hF.tmp 82 rfl] <;> rfl) (by decide) (by kernel_rfl) (st_mk (((gf dl (k : Int)).1, keyF (gf dl (k : Int)), restF (gf dl (k : Int)), 0) : StepD)) (fun kb hk => hk.elim) ?_
                clear hF hH; intro a w b83 hF hb83_ hH
                refine hK _ _ ?_; clear hK K
                refine wpList_plain rfl fun K hK => ?_
                refine w_append 6 83 (xs := out) (ys := ([(((gf dl (k : Int)).1, keyF (gf dl (k : Int)), restF (gf dl (k : Int)), 0) : StepD)])) hF hH rfl Tryd.underlying28 ty38 rfl rfl rfl rfl ((hH.rd 83 rfl)) (by intro k_ hk_; exact .inr hk_) (hF.tmp 81 rfl) (hF.tmp 83 rfl) (by rw [hq0_1.len]; simp only [List.length_cons, List.length_nil]; omega) (by rw [hq0_1.len]; simp only [List.length_cons, List.length_nil, maxLen]; omega) (fun _ => False) (fun w' v' h => st_any h) (fun k_ hk_ => hk_.elim) ?_
                clear hF hH; intro a w v84 hF hH
                refine hK _ _ ?_; clear hK K
                refine l_at hF rfl rfl rfl (x_assign (hF.tmp 84 rfl)) ?_; clear hF; intro a hF
                refine wpList_nil ?_
                refine hK12 _ _ ?_
                refine wp_region_lit ?_
                refine l_at hF rfl rfl rfl (x_move (hF.tmp 7 rfl)) ?_; clear hF; intro a hF
                refine l_at hF rfl rfl rfl (x_add (hF.tmp 31 rfl) rfl (w64 (by omega) (by omega))) ?_; clear hF; intro a hF
                refine l_at hF rfl rfl rfl (x_assign (hF.tmp 32 rfl)) ?_; clear hF; intro a hF
                refine wpList_nil ?_
                exact ⟨_, by omega, ⟨k + 1, out ++ [(((gf dl (k : Int)).1, keyF (gf dl (k : Int)), restF (gf dl (k : Int)), 0) : StepD)], v84, rfl, by omega, hq0_1.step hz.2 hsb, ((((hF.bare.add hF 7 rfl).add hF 6 rfl).add hF 4 rfl).add hF 0 rfl), hH.sub _ (sub_cons (sub_cons (sub_cons (sub_nil _) 6 rfl) 41 rfl) 901 rfl)⟩⟩
        · have hk30_8 := hc30; try simp only [Bool.or_eq_true, Bool.and_eq_true, Bool.or_eq_false_iff, Bool.and_eq_false_iff, Bool.not_eq_true', Bool.not_eq_false', decide_eq_true_eq, decide_eq_false_iff_not, Bool.not_true, Bool.not_false] at hc30
          obtain rfl : k = dl.length := by omega
          refine wp_exit ?_
          refine hK8 _ _ ?_
          refine wp_seq_k fun khK23 hK23 => ?_
          refine wp_region_lit ?_
          obtain ⟨Ao6, co6, rfl⟩ := (hH.row 6 rfl).form
          refine l_at hF rfl rfl rfl (x_move (hF.tmp 6 rfl)) ?_; clear hF; intro a hF
          refine wpList_plain rfl fun K hK => ?_
          refine w_call hF (x_enter Tryd.func14 (by kernel_rfl) rfl (by simp only [List.map_toArray, List.map_cons, List.map_nil, hF.tmp 86 rfl] <;> rfl)) (raenc_calls _ (Row.rd (ok' := fun k_ => (fun _ => False) k_ ∨ (.slice Ao6 out.length co6 : Value).ownBlock = some k_) (hH.row 6 rfl) (fun _ hk_ _ => .inl hk_) (fun _ hk_ => .inr hk_)) hq0_1.bytes) rfl rfl ?_
          rintro _ w ⟨vr87, rfl, hm_, hr_⟩; refine ⟨_, rfl, ?_⟩; clear hF; intro a hF; have hH := Hp.rowOut hH 87 hm_ hr_; obtain ⟨Ar87, cr87, rfl⟩ := (hH.row 87 rfl).form
          refine hK _ _ ?_; clear hK K
          refine l_at hF rfl rfl rfl (x_move (hF.tmp 87 rfl)) ?_; clear hF; intro a hF
          refine l_at hF rfl rfl rfl (x_extract (hF.tmp 85 rfl) rfl) ?_; clear hF; intro a hF
          refine l_at hF rfl rfl rfl (x_extract (hF.tmp 85 rfl) rfl) ?_; clear hF; intro a hF
          refine l_at hF rfl rfl rfl (x_assign (hF.tmp 88 rfl)) ?_; clear hF; intro a hF
          refine l_at hF rfl rfl rfl (x_assign (hF.tmp 89 rfl)) ?_; clear hF; intro a hF
          refine wpList_nil ?_
          refine hK23 _ _ ?_
          refine wp_seq_k fun khK24 hK24 => ?_
          refine wp_seq_k fun khK25 hK25 => ?_
          refine wp_region_lit ?_
          refine l_at hF rfl rfl rfl (x_move (hF.tmp 14 rfl)) ?_; clear hF; intro a hF
          refine l_at hF rfl rfl rfl (x_neq (hF.tmp 90 rfl) rfl) ?_; clear hF; intro a hF
          refine l_at hF rfl rfl rfl (x_move (hF.tmp 91 rfl)) ?_; clear hF; intro a hF
          refine split_bool hF 92 rfl (fun hb92 => ?_) (fun hb92 => ?_)
          · have hc92 := hb92; try simp only [Bool.or_eq_true, Bool.and_eq_true, Bool.or_eq_false_iff, Bool.and_eq_false_iff, Bool.not_eq_true', Bool.not_eq_false', decide_eq_true_eq, decide_eq_false_iff_not, Bool.not_true, Bool.not_false] at hc92
            have hz := hq0_1.bad hby hdl h4 (fun h => hc92 h.1)
            refine l_offg hF ((wanted_of hF rfl rfl rfl rfl).trans (by rw [hb92]; rfl)) rfl rfl ?_; clear hF; intro a hF
            refine l_offg hF ((wanted_of hF rfl rfl rfl rfl).trans (by rw [hb92]; rfl)) rfl rfl ?_; clear hF; intro a hF
            refine l_offg hF ((wanted_of hF rfl rfl rfl rfl).trans (by rw [hb92]; rfl)) rfl rfl ?_; clear hF; intro a hF
            refine l_offg hF ((wanted_of hF rfl rfl rfl rfl).trans (by rw [hb92]; rfl)) rfl rfl ?_; clear hF; intro a hF
            refine l_offg hF ((wanted_of hF rfl rfl rfl rfl).trans (by rw [hb92]; rfl)) rfl rfl ?_; clear hF; intro a hF
            refine l_at hF rfl rfl rfl (x_pickT (hF.tmp 92 rfl) hb92 rfl) ?_; clear hF; intro a hF
            refine wpList_nil ?_
            refine hK25 _ _ ?_
            refine wp_cond_true (hF.tmp 98 rfl) ?_
            refine wp_seq_k fun khK26 hK26 => ?_
            refine wp_region_lit ?_
            refine l_at hF rfl rfl rfl (x_assign rfl) ?_; clear hF; intro a hF
            refine l_at hF rfl rfl rfl (x_assign rfl) ?_; clear hF; intro a hF
            refine wpList_nil ?_
            refine hK26 _ _ ?_
            refine wp_ret ?_
            try simp only [Exit.then, Exit.inBlock]
            exact fin_ret hF (res2 hF rfl rfl rfl) ⟨.slice none 0 0, by rw [hz] <;> rfl, hH.mods, by rw [hz]; exact RowOut.nil _ _ _ _⟩
          · have hc92 := hb92; try simp only [Bool.or_eq_true, Bool.and_eq_true, Bool.or_eq_false_iff, Bool.and_eq_false_iff, Bool.not_eq_true', Bool.not_eq_false', decide_eq_true_eq, decide_eq_false_iff_not, Bool.not_true, Bool.not_false] at hc92
            refine l_atg hF ((wanted_of hF rfl rfl rfl rfl).trans (by rw [hb92]; rfl)) rfl rfl (x_move (hF.tmp 13 rfl)) ?_; clear hF; intro a hF
            refine l_atg hF ((wanted_of hF rfl rfl rfl rfl).trans (by rw [hb92]; rfl)) rfl rfl (x_b2s Tryd.underlying29 Tryd.underlying5 Tryd.underlying9 (Row.rd (ok' := fun k_ => (fun _ => False) k_ ∨ (.slice Ar87 (encT out).length cr87 : Value).ownBlock = some k_) (hH.row 87 rfl) (fun _ hk_ _ => .inl hk_) (fun _ hk_ => .inr hk_)) (hF.tmp 93 rfl)) ?_; clear hF; intro a hF
            refine l_atg hF ((wanted_of hF rfl rfl rfl rfl).trans (by rw [hb92]; rfl)) rfl rfl (x_move (hF.tmp 0 rfl)) ?_; clear hF; intro a hF
            refine l_atg hF ((wanted_of hF rfl rfl rfl rfl).trans (by rw [hb92]; rfl)) rfl rfl (x_b2s Tryd.underlying29 Tryd.underlying5 Tryd.underlying9 ((hH.rd 901 rfl)) (hF.tmp 95 rfl)) ?_; clear hF; intro a hF
            refine l_atg hF ((wanted_of hF rfl rfl rfl rfl).trans (by rw [hb92]; rfl)) rfl rfl (x_nen (xs := (encT out)) (ys := bs) (hF.tmp 94 rfl) (hF.tmp 96 rfl) (encT_byte hq0_1.bytes) hby) ?_; clear hF; intro a hF
            refine l_at hF rfl rfl rfl (x_pickF (hF.tmp 92 rfl) hb92 (hF.tmp 97 rfl)) ?_; clear hF; intro a hF
            refine wpList_nil ?_
            refine hK25 _ _ ?_
            refine wp_cond_split (hF.tmp 98 rfl) (fun hc98 => ?_) (fun hc98 => ?_)
            · have hk98_9 := hc98; try simp only [Bool.or_eq_true, Bool.and_eq_true, Bool.or_eq_false_iff, Bool.and_eq_false_iff, Bool.not_eq_true', Bool.not_eq_false', decide_eq_true_eq, decide_eq_false_iff_not, Bool.not_true, Bool.not_false] at hc98
              have hz := hq0_1.bad hby hdl h4 (fun h => hc98 h.2)
              refine wp_seq_k fun khK27 hK27 => ?_
              refine wp_region_lit ?_
              refine l_at hF rfl rfl rfl (x_assign rfl) ?_; clear hF; intro a hF
              refine l_at hF rfl rfl rfl (x_assign rfl) ?_; clear hF; intro a hF
              refine wpList_nil ?_
              refine hK27 _ _ ?_
              refine wp_ret ?_
              try simp only [Exit.then, Exit.inBlock]
              exact fin_ret hF (res2 hF rfl rfl rfl) ⟨.slice none 0 0, by rw [hz] <;> rfl, hH.mods, by rw [hz]; exact RowOut.nil _ _ _ _⟩
            · have hk98_10 := hc98; try simp only [Bool.or_eq_true, Bool.and_eq_true, Bool.or_eq_false_iff, Bool.and_eq_false_iff, Bool.not_eq_true', Bool.not_eq_false', decide_eq_true_eq, decide_eq_false_iff_not, Bool.not_true, Bool.not_false] at hc98
              have hz := hq0_1.good hdl hc92 hc98
              refine wp_skip ?_
              refine hK24 _ _ ?_
              refine wp_seq_k fun khK28 hK28 => ?_
              refine wp_region_lit ?_
              refine l_at hF rfl rfl rfl (x_move (hF.tmp 6 rfl)) ?_; clear hF; intro a hF
              refine l_at hF rfl rfl rfl (x_assign (hF.tmp 99 rfl)) ?_; clear hF; intro a hF
              refine l_at hF rfl rfl rfl (x_assign rfl) ?_; clear hF; intro a hF
              refine wpList_nil ?_
              refine hK28 _ _ ?_
              refine wp_ret ?_
              try simp only [Exit.then, Exit.inBlock]
              exact fin_ret hF (res2 hF rfl rfl rfl) ⟨_, by rw [hz] <;> rfl, hH.mods, by rw [hz]; exact Hp.out hH 6 rfl⟩

end Go.Proofs.YtlcnoibjhmflnaaDoor.Act
