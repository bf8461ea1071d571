/- The laws over lists of fields, walked. -/
import Derived.Test.YtjcpjkdadigkpaaCodA
import Derived.Test.YtjcpjkdadigkpaaCodE
set_option linter.unusedVariables false
set_option linter.unusedSimpArgs false
namespace Go.Proofs.Ytjcpjkdadigkpaa.Cod
open Go.RowKit Go.Proofs.Ytjcpjkdadigkpaa.Sx
theorem find_is {w0 : World} {tag : Int} {ok : Nat → Prop} {A : Option Addr} {xs : List Fld} {c : Nat} (hr : Rd FE w0 ok A xs c) (hsh : short xs = true) {o : Option (List Int)} (ho : findI xs tag = o) : Calls Try.prog 16 #[.slice A xs.length c, .int .i64 tag] w0 fun e w' => ∃ v, e = .returned (.tuple #[v, .bool o.isSome]) ∧ Mods (fun _ => False) w0 w' ∧ RowOut (.int .u8) 5 w0 w' v (o.getD []) := by
  have h := find_calls w0 tag hr hsh
  rw [ho] at h
  exact h
set_option maxHeartbeats 1000000 in
theorem finds_calls (w0 : World) (tag : Int) {ok : Nat → Prop} {A1 A2 : Option Addr} {xsa xsb : List Fld} {c1 c2 : Nat} (hra : Rd FE w0 ok A1 xsa c1) (hrb : Rd FE w0 ok A2 xsb c2) : Calls Try.prog 6 #[.slice A1 xsa.length c1, .slice A2 xsb.length c2, .int .i64 tag] w0 fun e w' => e = .returned (.bool true) ∧ Mods (fun _ => False) w0 w' := by
  refine calls_of_wp Try.func6 rfl ?_
  have hF := Fr.enter #[.slice A1 xsa.length c1, .slice A2 xsb.length c2, .int .i64 tag] 109 (slotsOf [.slice A1 xsa.length c1, .slice A2 xsb.length c2, .int .i64 tag] 0) (Nat.le_of_ble_eq_true rfl) (fun i v h => by have h2 := (get_slotsOf _ 0 i v h).2; simpa only [List.getElem?_toArray, Nat.sub_zero] using h2)
  have hH := Hp.nil (fun _ => False) w0
  rw [Try.ntmps6]
  revert hF; generalize (⟨(#[.slice A1 xsa.length c1, .slice A2 xsb.length c2, .int .i64 tag] : Array Value) ++ Array.replicate (109 - (#[.slice A1 xsa.length c1, .slice A2 xsb.length c2, .int .i64 tag] : Array Value).size) undef, []⟩ : Act) = a; intro hF
  have hH := hH.arg 901 hra.all (fun _ h => ⟨h, fun h => h⟩)
  have hle901 := hra.le; unfold maxLen at hle901
  have hH := hH.arg 902 hrb.all (fun _ h => ⟨h, fun h => h⟩)
  have hle902 := hrb.le; unfold maxLen at hle902
  refine wp_seq_k fun khK1 hK1 => ?_
  refine wp_region_lit ?_
  refine l_at hF rfl rfl rfl (x_assign rfl) ?_; clear hF; intro a hF
  refine wpList_nil ?_
  refine hK1 _ _ ?_
  refine wp_seq_k fun khK2 hK2 => ?_
  refine wp_region_lit ?_
  refine l_at hF rfl rfl rfl (x_move (hF.tmp 0 rfl)) ?_; clear hF; intro a hF
  refine wpList_plain rfl fun K hK => ?_
  refine w_call hF (x_enter Try.func13 (by kernel_rfl) rfl (by simp only [List.map_toArray, List.map_cons, List.map_nil, hF.tmp 16 rfl] <;> rfl)) (few_calls _ ((hH.rd 901 rfl))) rfl rfl ?_
  rintro _ w ⟨rfl, hm_⟩; refine ⟨_, rfl, ?_⟩; clear hF; intro a hF; have hH := hH.same hm_
  refine hK _ _ ?_; clear hK K
  refine l_at hF rfl rfl rfl (x_assign (hF.tmp 17 rfl)) ?_; clear hF; intro a hF
  refine wpList_nil ?_
  refine hK2 _ _ ?_
  refine wp_seq_k fun khK3 hK3 => ?_
  refine wp_region_lit ?_
  refine l_at hF rfl rfl rfl (x_move (hF.tmp 1 rfl)) ?_; clear hF; intro a hF
  refine wpList_plain rfl fun K hK => ?_
  refine w_call hF (x_enter Try.func13 (by kernel_rfl) rfl (by simp only [List.map_toArray, List.map_cons, List.map_nil, hF.tmp 18 rfl] <;> rfl)) (few_calls _ ((hH.rd 902 rfl))) rfl rfl ?_
  rintro _ w ⟨rfl, hm_⟩; refine ⟨_, rfl, ?_⟩; clear hF; intro a hF; have hH := hH.same hm_
  refine hK _ _ ?_; clear hK K
  refine l_at hF rfl rfl rfl (x_assign (hF.tmp 19 rfl)) ?_; clear hF; intro a hF
  refine wpList_nil ?_
  refine hK3 _ _ ?_
  refine wp_seq_k fun khK4 hK4 => ?_
  refine wp_seq_k fun khK5 hK5 => ?_
  refine wp_region_lit ?_
  refine l_at hF rfl rfl rfl (x_move (hF.tmp 7 rfl)) ?_; clear hF; intro a hF
  refine l_at hF rfl rfl rfl (x_not (hF.tmp 20 rfl)) ?_; clear hF; intro a hF
  refine l_at hF rfl rfl rfl (x_move (hF.tmp 21 rfl)) ?_; clear hF; intro a hF
  refine split_bool hF 22 rfl (fun hb22 => ?_) (fun hb22 => ?_)
  · have hc22 := hb22; try simp only [Bool.or_eq_true, Bool.and_eq_true, Bool.or_eq_false_iff, Bool.and_eq_false_iff, Bool.not_eq_true', Bool.not_eq_false', decide_eq_true_eq, decide_eq_false_iff_not, Bool.not_true, Bool.not_false] at hc22
    refine l_offg hF ((wanted_of hF rfl rfl rfl rfl).trans (by rw [hb22]; rfl)) rfl rfl ?_; clear hF; intro a hF
    refine l_offg hF ((wanted_of hF rfl rfl rfl rfl).trans (by rw [hb22]; rfl)) rfl rfl ?_; clear hF; intro a hF
    refine l_at hF rfl rfl rfl (x_pickT (hF.tmp 22 rfl) hb22 rfl) ?_; clear hF; intro a hF
    refine wpList_nil ?_
    refine hK5 _ _ ?_
    refine wp_cond_true (hF.tmp 25 rfl) ?_
    refine wp_seq_k fun khK6 hK6 => ?_
    refine wp_region_lit ?_
    refine wpList_plain rfl fun K hK => ?_
    refine w_call hF (x_enter Try.func14 (by kernel_rfl) rfl (by simp only [List.map_toArray, List.map_cons, List.map_nil] <;> rfl)) (alive_calls _) rfl rfl ?_
    rintro _ w ⟨rfl, hm_⟩; refine ⟨_, rfl, ?_⟩; clear hF; intro a hF; have hH := hH.same hm_
    refine hK _ _ ?_; clear hK K
    refine l_at hF rfl rfl rfl (x_assign (hF.tmp 26 rfl)) ?_; clear hF; intro a hF
    refine wpList_nil ?_
    refine hK6 _ _ ?_
    refine wp_ret ?_
    try simp only [Exit.then, Exit.inBlock]
    exact fin_ret hF (res1 hF rfl rfl) ⟨rfl, hH.mods⟩
  · have hc22 := hb22; try simp only [Bool.or_eq_true, Bool.and_eq_true, Bool.or_eq_false_iff, Bool.and_eq_false_iff, Bool.not_eq_true', Bool.not_eq_false', decide_eq_true_eq, decide_eq_false_iff_not, Bool.not_true, Bool.not_false] at hc22
    have hla := few_len hc22
    have hsa := few_short hc22
    refine l_atg hF ((wanted_of hF rfl rfl rfl rfl).trans (by rw [hb22]; rfl)) rfl rfl (x_move (hF.tmp 8 rfl)) ?_; clear hF; intro a hF
    refine l_atg hF ((wanted_of hF rfl rfl rfl rfl).trans (by rw [hb22]; rfl)) rfl rfl (x_not (hF.tmp 23 rfl)) ?_; clear hF; intro a hF
    refine l_at hF rfl rfl rfl (x_pickF (hF.tmp 22 rfl) hb22 (hF.tmp 24 rfl)) ?_; clear hF; intro a hF
    refine wpList_nil ?_
    refine hK5 _ _ ?_
    refine wp_cond_split (hF.tmp 25 rfl) (fun hc25 => ?_) (fun hc25 => ?_)
    · try simp only [Bool.or_eq_true, Bool.and_eq_true, Bool.or_eq_false_iff, Bool.and_eq_false_iff, Bool.not_eq_true', Bool.not_eq_false', decide_eq_true_eq, decide_eq_false_iff_not, Bool.not_true, Bool.not_false] at hc25
      refine wp_seq_k fun khK7 hK7 => ?_
      refine wp_region_lit ?_
      refine wpList_plain rfl fun K hK => ?_
      refine w_call hF (x_enter Try.func14 (by kernel_rfl) rfl (by simp only [List.map_toArray, List.map_cons, List.map_nil] <;> rfl)) (alive_calls _) rfl rfl ?_
      rintro _ w ⟨rfl, hm_⟩; refine ⟨_, rfl, ?_⟩; clear hF; intro a hF; have hH := hH.same hm_
      refine hK _ _ ?_; clear hK K
      refine l_at hF rfl rfl rfl (x_assign (hF.tmp 26 rfl)) ?_; clear hF; intro a hF
      refine wpList_nil ?_
      refine hK7 _ _ ?_
      refine wp_ret ?_
      try simp only [Exit.then, Exit.inBlock]
      exact fin_ret hF (res1 hF rfl rfl) ⟨rfl, hH.mods⟩
    · try simp only [Bool.or_eq_true, Bool.and_eq_true, Bool.or_eq_false_iff, Bool.and_eq_false_iff, Bool.not_eq_true', Bool.not_eq_false', decide_eq_true_eq, decide_eq_false_iff_not, Bool.not_true, Bool.not_false] at hc25
      have hlb := few_len hc25
      have hsb := few_short hc25
      refine wp_skip ?_
      refine hK4 _ _ ?_
      refine wp_seq_k fun khK8 hK8 => ?_
      refine wp_region_lit ?_
      refine l_at hF rfl rfl rfl (x_move (hF.tmp 0 rfl)) ?_; clear hF; intro a hF
      refine l_at hF rfl rfl rfl (x_move (hF.tmp 2 rfl)) ?_; clear hF; intro a hF
      refine wpList_plain rfl fun K hK => ?_
      refine w_call hF (x_enter Try.func16 (by kernel_rfl) rfl (by simp only [List.map_toArray, List.map_cons, List.map_nil, hF.tmp 28 rfl, hF.tmp 29 rfl] <;> rfl)) (find_is ((hH.rd 901 rfl)) hsa rfl) rfl rfl ?_
      rintro _ w ⟨vr30, rfl, hm_, hr_⟩; refine ⟨_, rfl, ?_⟩; clear hF; intro a hF; have hH := Hp.rowOut hH 30 hm_ hr_; obtain ⟨Ar30, cr30, rfl⟩ := (hH.row 30 rfl).form
      refine hK _ _ ?_; clear hK K
      refine l_at hF rfl rfl rfl (x_move (hF.tmp 30 rfl)) ?_; clear hF; intro a hF
      refine l_at hF rfl rfl rfl (x_extract (hF.tmp 27 rfl) rfl) ?_; clear hF; intro a hF
      refine l_at hF rfl rfl rfl (x_extract (hF.tmp 27 rfl) rfl) ?_; clear hF; intro a hF
      refine l_at hF rfl rfl rfl (x_assign (hF.tmp 31 rfl)) ?_; clear hF; intro a hF
      refine l_at hF rfl rfl rfl (x_assign (hF.tmp 32 rfl)) ?_; clear hF; intro a hF
      refine wpList_nil ?_
      refine hK8 _ _ ?_
      refine wp_seq_k fun khK9 hK9 => ?_
      refine wp_region_lit ?_
      refine l_at hF rfl rfl rfl (x_assign rfl) ?_; clear hF; intro a hF
      refine wpList_nil ?_
      refine hK9 _ _ ?_
      refine wp_seq_k fun khK10 hK10 => ?_
      refine wp_block ?_
      refine wp_loop_ghost (fun n_ a w => ∃ k : Nat, n_ = xsa.length - k ∧ (k ≤ xsa.length) ∧ (findI (xsa.take k) tag = none) ∧ Fr 109 a [(0, .slice A1 xsa.length c1), (1, .slice A2 xsb.length c2), (2, .int .i64 tag), (9, .slice Ar30 ((findI xsa tag).getD []).length cr30), (10, .bool (findI xsa tag).isSome), (11, .int .i64 (k : Int))] ∧ Hp (fun _ => False) w0 w [(901, .rd_ FE A1 xsa c1 (fun k => k < w0.heap.size)), (902, .rd_ FE A2 xsb c2 (fun k => k < w0.heap.size)), (30, .row (.int .u8) 5 (.slice Ar30 ((findI xsa tag).getD []).length cr30) ((findI xsa tag).getD []) (fun _ => False))]) (xsa.length) ?_ ?_
      · exact ⟨0, rfl, by omega, rfl, ((((((hF.bare.add hF 11 rfl).add hF 10 rfl).add hF 9 rfl).add hF 2 rfl).add hF 1 rfl).add hF 0 rfl), hH.sub _ (sub_cons (sub_cons (sub_cons (sub_nil _) 30 rfl) 902 rfl) 901 rfl)⟩
      · rintro _ a w ⟨k, rfl, hq0_0, hq0_1, hF, hH⟩
        refine wp_seq_k fun khK11 hK11 => ?_
        refine wp_seq_k fun khK12 hK12 => ?_
        refine wp_region_lit ?_
        refine l_at hF rfl rfl rfl (x_move (hF.tmp 11 rfl)) ?_; clear hF; intro a hF
        refine l_at hF rfl rfl rfl (x_move (hF.tmp 0 rfl)) ?_; clear hF; intro a hF
        refine l_at hF rfl rfl rfl (x_len_slice Try.underlying30 (hF.tmp 34 rfl)) ?_; clear hF; intro a hF
        refine l_at hF rfl rfl rfl (x_lss (hF.tmp 33 rfl) (hF.tmp 35 rfl)) ?_; clear hF; intro a hF
        refine l_at hF rfl rfl rfl (x_move (hF.tmp 36 rfl)) ?_; clear hF; intro a hF
        refine split_bool hF 37 rfl (fun hb37 => ?_) (fun hb37 => ?_)
        · have hc37 := hb37; try simp only [Bool.or_eq_true, Bool.and_eq_true, Bool.or_eq_false_iff, Bool.and_eq_false_iff, Bool.not_eq_true', Bool.not_eq_false', decide_eq_true_eq, decide_eq_false_iff_not, Bool.not_true, Bool.not_false] at hc37
          obtain ⟨fA2, fc2, hfr2, hf2_0, hf2_1, hfw2⟩ := Rd.fld ((hH.rd 901 rfl)) (gf_some (xs := xsa) (i := (k : Int)) (by omega) (by omega))
          have hH := hH.subrd 901 rfl 2001 hfr2 (fun _ h => h)
          have hH := hH.subcel 901 rfl 2500 hf2_0 (Rd.inok ((hH.rd 901 rfl)) (by omega) _)
          have hH := hH.subcel 901 rfl 2501 hf2_1 (Rd.inok ((hH.rd 901 rfl)) (by omega) _)
          refine l_atg hF ((wanted_of hF rfl rfl rfl rfl).trans (by rw [hb37]; rfl)) rfl rfl (x_move (hF.tmp 0 rfl)) ?_; clear hF; intro a hF
          refine l_atg hF ((wanted_of hF rfl rfl rfl rfl).trans (by rw [hb37]; rfl)) rfl rfl (x_move (hF.tmp 11 rfl)) ?_; clear hF; intro a hF
          refine l_atg hF ((wanted_of hF rfl rfl rfl rfl).trans (by rw [hb37]; rfl)) rfl rfl (x_iaddr_A Try.underlying30 ty36 ((hH.rd 901 rfl)) (hF.tmp 38 rfl) (hF.tmp 39 rfl) (by omega) (by omega) _) ?_; clear hF; intro a hF
          refine l_atg hF ((wanted_of hF rfl rfl rfl rfl).trans (by rw [hb37]; rfl)) rfl rfl (x_faddrA ((hH.rd 901 rfl)) (by omega) _ Try.underlying36 rfl ty3 (by decide) (hF.tmp 40 rfl) rfl) ?_; clear hF; intro a hF
          refine l_atg hF ((wanted_of hF rfl rfl rfl rfl).trans (by rw [hb37]; rfl)) rfl rfl (x_load1 ty3 (hF.tmp 41 rfl) (hH.holds 2500 _ rfl)) ?_; clear hF; intro a hF
          refine l_atg hF ((wanted_of hF rfl rfl rfl rfl).trans (by rw [hb37]; rfl)) rfl rfl (x_move (hF.tmp 2 rfl)) ?_; clear hF; intro a hF
          refine l_atg hF ((wanted_of hF rfl rfl rfl rfl).trans (by rw [hb37]; rfl)) rfl rfl (x_neq (hF.tmp 42 rfl) (hF.tmp 43 rfl)) ?_; clear hF; intro a hF
          refine l_at hF rfl rfl rfl (x_pickT (hF.tmp 37 rfl) hb37 (hF.tmp 44 rfl)) ?_; clear hF; intro a hF
          refine wpList_nil ?_
          refine hK12 _ _ ?_
          refine wp_cond_split (hF.tmp 45 rfl) (fun hc45 => ?_) (fun hc45 => ?_)
          · try simp only [Bool.or_eq_true, Bool.and_eq_true, Bool.or_eq_false_iff, Bool.and_eq_false_iff, Bool.not_eq_true', Bool.not_eq_false', decide_eq_true_eq, decide_eq_false_iff_not, Bool.not_true, Bool.not_false] at hc45
            refine wp_skip ?_
            refine hK11 _ _ ?_
            refine wp_block ?_
            refine wp_region_lit ?_
            refine l_at hF rfl rfl rfl (x_move (hF.tmp 11 rfl)) ?_; clear hF; intro a hF
            refine l_at hF rfl rfl rfl (x_add (hF.tmp 46 rfl) rfl (w64 (by omega) (by omega))) ?_; clear hF; intro a hF
            refine l_at hF rfl rfl rfl (x_assign (hF.tmp 47 rfl)) ?_; clear hF; intro a hF
            refine wpList_nil ?_
            exact ⟨_, by omega, ⟨k + 1, rfl, by omega, find_step hc37 hq0_1 hc45, ((((((hF.bare.add hF 11 rfl).add hF 10 rfl).add hF 9 rfl).add hF 2 rfl).add hF 1 rfl).add hF 0 rfl), hH.sub _ (sub_cons (sub_cons (sub_cons (sub_nil _) 30 rfl) 902 rfl) 901 rfl)⟩⟩
          · try simp only [Bool.or_eq_true, Bool.and_eq_true, Bool.or_eq_false_iff, Bool.and_eq_false_iff, Bool.not_eq_true', Bool.not_eq_false', decide_eq_true_eq, decide_eq_false_iff_not, Bool.not_true, Bool.not_false] at hc45
            have hfa := find_at hc37 hq0_1 hc45
            have hq := find_app_some (ys := xsb) hfa
            have hk : (k : Int) < (xsa.length : Int) := hc37
            rw [hfa] at hF
            rw [hfa] at hH
            obtain ⟨fA1, fc1, hfr1, hf1_0, hf1_1, hfw1⟩ := Rd.fld ((hH.rd 901 rfl)) (gf_some (xs := xsa) (i := (k : Int)) (by omega) (by omega))
            have hH := hH.subrd 901 rfl 1001 hfr1 (fun _ h => h)
            have hH := hH.subcel 901 rfl 1500 hf1_0 (Rd.inok ((hH.rd 901 rfl)) (by omega) _)
            have hH := hH.subcel 901 rfl 1501 hf1_1 (Rd.inok ((hH.rd 901 rfl)) (by omega) _)
            refine wp_exit ?_
            refine hK10 _ _ ?_
            refine wp_seq_k fun khK13 hK13 => ?_
            refine wp_region_lit ?_
            refine l_at hF rfl rfl rfl (x_move (hF.tmp 1 rfl)) ?_; clear hF; intro a hF
            refine l_at hF rfl rfl rfl (x_move (hF.tmp 2 rfl)) ?_; clear hF; intro a hF
            refine wpList_plain rfl fun K hK => ?_
            refine w_call hF (x_enter Try.func16 (by kernel_rfl) rfl (by simp only [List.map_toArray, List.map_cons, List.map_nil, hF.tmp 49 rfl, hF.tmp 50 rfl] <;> rfl)) (find_is ((hH.rd 902 rfl)) hsb rfl) rfl rfl ?_
            rintro _ w ⟨vr51, rfl, hm_, hr_⟩; refine ⟨_, rfl, ?_⟩; clear hF; intro a hF; have hH := Hp.rowOut hH 51 hm_ hr_; obtain ⟨Ar51, cr51, rfl⟩ := (hH.row 51 rfl).form
            refine hK _ _ ?_; clear hK K
            refine l_at hF rfl rfl rfl (x_move (hF.tmp 51 rfl)) ?_; clear hF; intro a hF
            refine l_at hF rfl rfl rfl (x_extract (hF.tmp 48 rfl) rfl) ?_; clear hF; intro a hF
            refine l_at hF rfl rfl rfl (x_extract (hF.tmp 48 rfl) rfl) ?_; clear hF; intro a hF
            refine l_at hF rfl rfl rfl (x_assign (hF.tmp 52 rfl)) ?_; clear hF; intro a hF
            refine l_at hF rfl rfl rfl (x_assign (hF.tmp 53 rfl)) ?_; clear hF; intro a hF
            refine wpList_nil ?_
            refine hK13 _ _ ?_
            refine wp_seq_k fun khK14 hK14 => ?_
            refine wp_region_lit ?_
            refine wpList_plain rfl fun K hK => ?_
            refine w_lit0 FE 55 hF hH rfl Try.underlying30 ty36 ?_
            clear hF hH; intro a w b55 hF hH
            refine hK _ _ ?_; clear hK K
            refine l_at hF rfl rfl rfl (x_move (hF.tmp 0 rfl)) ?_; clear hF; intro a hF
            refine wpList_plain rfl fun K hK => ?_
            refine w_append 55 901 hF hH rfl Try.underlying30 ty36 rfl rfl rfl rfl ((hH.rd 901 rfl)) (by intro k_ hk_; exact .inr hk_) (hF.tmp 55 rfl) (hF.tmp 56 rfl) (by simp only [List.length_append, List.length_nil] at *; omega) (by simp only [List.length_append, List.length_nil, maxLen] at *; omega) (fun k => (fun _ => False) k ∨ (fun k => k < w0.heap.size) k) (fun w' v' h => h) (by rintro k_ (hk_ | hk_); exact .inl hk_; exact .inr hk_) ?_
            clear hF hH; intro a w v57 hF hH
            refine hK _ _ ?_; clear hK K
            refine l_at hF rfl rfl rfl (x_move (hF.tmp 1 rfl)) ?_; clear hF; intro a hF
            refine wpList_plain rfl fun K hK => ?_
            refine w_append 55 902 hF hH rfl Try.underlying30 ty36 rfl rfl rfl rfl ((hH.rd 902 rfl)) (by intro k_ hk_; exact .inr hk_) (hF.tmp 57 rfl) (hF.tmp 58 rfl) (by simp only [List.length_append, List.length_nil] at *; omega) (by simp only [List.length_append, List.length_nil, maxLen] at *; omega) (fun k => (fun k => (fun _ => False) k ∨ (fun k => k < w0.heap.size) k) k ∨ (fun k => k < w0.heap.size) k) (fun w' v' h => h) (by rintro k_ (hk_ | hk_); exact .inl hk_; exact .inr hk_) ?_
            clear hF hH; intro a w v59 hF hH
            refine hK _ _ ?_; clear hK K
            obtain ⟨A59, c59, rfl⟩ := (hH.row 55 rfl).form
            refine l_at hF rfl rfl rfl (x_move (hF.tmp 2 rfl)) ?_; clear hF; intro a hF
            refine wpList_plain rfl fun K hK => ?_
            refine w_call hF (x_enter Try.func16 (by kernel_rfl) rfl (by simp only [List.map_toArray, List.map_cons, List.map_nil, hF.tmp 59 rfl, hF.tmp 60 rfl] <;> rfl)) (find_is (Row.rd (ok' := fun k_ => (fun k => (fun k => (fun _ => False) k ∨ (fun k => k < w0.heap.size) k) k ∨ (fun k => k < w0.heap.size) k) k_ ∨ (.slice A59 (([] ++ xsa) ++ xsb).length c59 : Value).ownBlock = some k_) (hH.row 55 rfl) (fun _ hk_ _ => .inl hk_) (fun _ hk_ => .inr hk_)) (short_app hsa hsb) hq) rfl rfl ?_
            rintro _ w ⟨vr61, rfl, hm_, hr_⟩; refine ⟨_, rfl, ?_⟩; clear hF; intro a hF; have hH := Hp.rowOut hH 61 hm_ hr_; obtain ⟨Ar61, cr61, rfl⟩ := (hH.row 61 rfl).form
            refine hK _ _ ?_; clear hK K
            refine l_at hF rfl rfl rfl (x_move (hF.tmp 61 rfl)) ?_; clear hF; intro a hF
            refine l_at hF rfl rfl rfl (x_extract (hF.tmp 54 rfl) rfl) ?_; clear hF; intro a hF
            refine l_at hF rfl rfl rfl (x_extract (hF.tmp 54 rfl) rfl) ?_; clear hF; intro a hF
            refine l_at hF rfl rfl rfl (x_assign (hF.tmp 62 rfl)) ?_; clear hF; intro a hF
            refine l_at hF rfl rfl rfl (x_assign (hF.tmp 63 rfl)) ?_; clear hF; intro a hF
            refine wpList_nil ?_
            refine hK14 _ _ ?_
            refine wp_seq_k fun khK15 hK15 => ?_
            refine wp_seq_k fun khK16 hK16 => ?_
            refine r_start [(30, .row (.int .u8) 5 (.slice Ar30 (gf xsa (k : Int)).2.length cr30) (gf xsa (k : Int)).2 (fun _ => False)), (901, .rd_ FE A1 xsa c1 (fun k => k < w0.heap.size)), (1501, .cel (adr A1 ((k : Int).toNat * 2 + 1)) (.slice fA1 (gf xsa (k : Int)).2.length fc1)), (1001, .rd_ (.int .u8) (fA1) (gf xsa (k : Int)).2 fc1 (fun k => k < w0.heap.size))] (by kernel_rfl) hH fun hH => ?_
            have hS : SL [(30, .row (.int .u8) 5 (.slice Ar30 (gf xsa (k : Int)).2.length cr30) (gf xsa (k : Int)).2 (fun _ => False)), (901, .rd_ FE A1 xsa c1 (fun k => k < w0.heap.size)), (1501, .cel (adr A1 ((k : Int).toNat * 2 + 1)) (.slice fA1 (gf xsa (k : Int)).2.length fc1)), (1001, .rd_ (.int .u8) (fA1) (gf xsa (k : Int)).2 fc1 (fun k => k < w0.heap.size))] _ := SL.of hH (sub_cons (sub_cons (sub_cons (sub_cons (sub_nil _) 1001 rfl) 1501 rfl) 901 rfl) 30 rfl)
            refine r_take 0 hF rfl rfl rfl (by kernel_rfl) (by kernel_rfl) (by kernel_rfl) (fun _ _ _ h => h) rfl hS (fun w hS => x_move (hF.tmp 10 rfl)) rfl ?_; clear hF; intro a hF
            refine r_take 1 hF rfl rfl rfl (by kernel_rfl) (by kernel_rfl) (by kernel_rfl) (fun _ _ _ h => h) rfl hS (fun w hS => x_move (hF.tmp 11 rfl)) rfl ?_; clear hF; intro a hF
            refine r_take 2 hF rfl rfl rfl (by kernel_rfl) (by kernel_rfl) (by kernel_rfl) (fun _ _ _ h => h) rfl hS (fun w hS => x_move (hF.tmp 0 rfl)) rfl ?_; clear hF; intro a hF
            refine r_take 3 hF rfl rfl rfl (by kernel_rfl) (by kernel_rfl) (by kernel_rfl) (fun _ _ _ h => h) rfl hS (fun w hS => x_len_slice Try.underlying30 (hF.tmp 66 rfl)) rfl ?_; clear hF; intro a hF
            refine r_take 4 hF rfl rfl rfl (by kernel_rfl) (by kernel_rfl) (by kernel_rfl) (fun _ _ _ h => h) rfl hS (fun w hS => x_lss (hF.tmp 65 rfl) (hF.tmp 67 rfl)) rfl ?_; clear hF; intro a hF
            rw [decide_eq_true hk] at hF
            refine r_take 5 hF rfl rfl rfl (by kernel_rfl) (by kernel_rfl) (by kernel_rfl) (fun _ _ _ h => h) rfl hS (fun w hS => x_neb (hF.tmp 64 rfl) (hF.tmp 68 rfl) Try.underlying4) rfl ?_; clear hF; intro a hF
            refine r_take 6 hF rfl rfl rfl (by kernel_rfl) (by kernel_rfl) (by kernel_rfl) (fun _ _ _ h => h) rfl hS (fun w hS => x_move (hF.tmp 69 rfl)) rfl ?_; clear hF; intro a hF
            refine r_take 7 hF rfl rfl rfl (by kernel_rfl) (by kernel_rfl) (by kernel_rfl) (fun _ _ _ h => h) ((wanted_of hF rfl rfl rfl rfl).trans rfl) hS (fun w hS => x_move (hF.tmp 10 rfl)) rfl ?_; clear hF; intro a hF
            refine r_take 8 hF rfl rfl rfl (by kernel_rfl) (by kernel_rfl) (by kernel_rfl) (fun _ _ _ h => h) ((wanted_of hF rfl rfl rfl rfl).trans rfl) hS (fun w hS => x_move (hF.tmp 71 rfl)) rfl ?_; clear hF; intro a hF
            refine r_take 9 hF rfl rfl rfl (by kernel_rfl) (by kernel_rfl) (by kernel_rfl) (fun _ _ _ h => h) ((wanted_of hF rfl rfl rfl rfl).trans rfl) hS (fun w hS => x_move (hF.tmp 9 rfl)) rfl ?_; clear hF; intro a hF
            refine r_take 10 hF rfl rfl rfl (by kernel_rfl) (by kernel_rfl) (by kernel_rfl) (fun _ _ _ h => h) ((wanted_of hF rfl rfl rfl rfl).trans rfl) hS (fun w hS => x_b2s Try.underlying22 Try.underlying5 Try.underlying9 (Row.rd (ok' := fun k_ => (fun _ => False) k_ ∨ (.slice Ar30 (gf xsa (k : Int)).2.length cr30 : Value).ownBlock = some k_) (SL.row hS 30 rfl) (fun _ hk_ _ => .inl hk_) (fun _ hk_ => .inr hk_)) (hF.tmp 73 rfl)) rfl ?_; clear hF; intro a hF
            refine r_take 11 hF rfl rfl rfl (by kernel_rfl) (by kernel_rfl) (by kernel_rfl) (fun _ _ _ h => h) ((wanted_of hF rfl rfl rfl rfl).trans rfl) hS (fun w hS => x_move (hF.tmp 0 rfl)) rfl ?_; clear hF; intro a hF
            refine r_take 12 hF rfl rfl rfl (by kernel_rfl) (by kernel_rfl) (by kernel_rfl) (fun _ _ _ h => h) ((wanted_of hF rfl rfl rfl rfl).trans rfl) hS (fun w hS => x_move (hF.tmp 11 rfl)) rfl ?_; clear hF; intro a hF
            refine r_take 13 hF rfl rfl rfl (by kernel_rfl) (by kernel_rfl) (by kernel_rfl) (fun _ _ _ h => h) ((wanted_of hF rfl rfl rfl rfl).trans rfl) hS (fun w hS => x_iaddr_A Try.underlying30 ty36 ((hH.rd 901 rfl)) (hF.tmp 75 rfl) (hF.tmp 76 rfl) (by omega) (by omega) _) rfl ?_; clear hF; intro a hF
            refine r_take 14 hF rfl rfl rfl (by kernel_rfl) (by kernel_rfl) (by kernel_rfl) (fun _ _ _ h => h) ((wanted_of hF rfl rfl rfl rfl).trans rfl) hS (fun w hS => x_faddrA ((SL.rd hS 901 rfl)) (by omega) _ Try.underlying36 rfl ty22 (by decide) (hF.tmp 77 rfl) rfl) rfl ?_; clear hF; intro a hF
            refine r_take 15 hF rfl rfl rfl (by kernel_rfl) (by kernel_rfl) (by kernel_rfl) (fun _ _ _ h => h) ((wanted_of hF rfl rfl rfl rfl).trans rfl) hS (fun w hS => x_load1 ty22 (hF.tmp 78 rfl) (hS 1501 _ rfl)) rfl ?_; clear hF; intro a hF
            refine r_take 16 hF rfl rfl rfl (by kernel_rfl) (by kernel_rfl) (by kernel_rfl) (fun _ _ _ h => h) ((wanted_of hF rfl rfl rfl rfl).trans rfl) hS (fun w hS => x_b2s Try.underlying22 Try.underlying5 Try.underlying9 ((SL.rd hS 1001 rfl)) (hF.tmp 79 rfl)) rfl ?_; clear hF; intro a hF
            refine r_take 17 hF rfl rfl rfl (by kernel_rfl) (by kernel_rfl) (by kernel_rfl) (fun _ _ _ h => h) ((wanted_of hF rfl rfl rfl rfl).trans rfl) hS (fun w hS => x_nes (hF.tmp 74 rfl) (hF.tmp 80 rfl)) rfl ?_; clear hF; intro a hF
            rw [decide_eq_true rfl] at hF
            refine r_take 18 hF rfl rfl rfl (by kernel_rfl) (by kernel_rfl) (by kernel_rfl) (fun _ _ _ h => h) ((wanted_of hF rfl rfl rfl rfl).trans rfl) hS (fun w hS => x_pickT (hF.tmp 72 rfl) rfl (hF.tmp 81 rfl)) rfl ?_; clear hF; intro a hF
            refine r_take 19 hF rfl rfl rfl (by kernel_rfl) (by kernel_rfl) (by kernel_rfl) (fun _ _ _ h => h) rfl hS (fun w hS => x_pickF (hF.tmp 70 rfl) rfl (hF.tmp 82 rfl)) rfl ?_; clear hF; intro a hF
            refine r_take 20 hF rfl rfl rfl (by kernel_rfl) (by kernel_rfl) (by kernel_rfl) (fun _ _ _ h => h) rfl hS (fun w hS => x_move (hF.tmp 83 rfl)) rfl ?_; clear hF; intro a hF
            refine r_take 21 hF rfl rfl rfl (by kernel_rfl) (by kernel_rfl) (by kernel_rfl) (fun _ _ _ h => h) ((wanted_of hF rfl rfl rfl rfl).trans rfl) hS (fun w hS => x_move (hF.tmp 15 rfl)) rfl ?_; clear hF; intro a hF
            refine r_take 22 hF rfl rfl rfl (by kernel_rfl) (by kernel_rfl) (by kernel_rfl) (fun _ _ _ h => h) ((wanted_of hF rfl rfl rfl rfl).trans rfl) hS (fun w hS => x_move (hF.tmp 10 rfl)) rfl ?_; clear hF; intro a hF
            refine r_take 23 hF rfl rfl rfl (by kernel_rfl) (by kernel_rfl) (by kernel_rfl) (fun _ _ _ h => h) ((wanted_of hF rfl rfl rfl rfl).trans rfl) hS (fun w hS => x_move (hF.tmp 86 rfl)) rfl ?_; clear hF; intro a hF
            refine r_off 24 hF rfl rfl rfl (by kernel_rfl) (by kernel_rfl) (by kernel_rfl) (fun _ _ _ h => h) ((wanted_of hF rfl rfl rfl rfl).trans rfl) hS rfl ?_; clear hF; intro a hF
            refine r_take 25 hF rfl rfl rfl (by kernel_rfl) (by kernel_rfl) (by kernel_rfl) (fun _ _ _ h => h) ((wanted_of hF rfl rfl rfl rfl).trans rfl) hS (fun w hS => x_pickT (hF.tmp 87 rfl) rfl rfl) rfl ?_; clear hF; intro a hF
            refine r_take 26 hF rfl rfl rfl (by kernel_rfl) (by kernel_rfl) (by kernel_rfl) (fun _ _ _ h => h) ((wanted_of hF rfl rfl rfl rfl).trans rfl) hS (fun w hS => x_neb (hF.tmp 85 rfl) (hF.tmp 89 rfl) Try.underlying4) rfl ?_; clear hF; intro a hF
            refine r_take 27 hF rfl rfl rfl (by kernel_rfl) (by kernel_rfl) (by kernel_rfl) (fun _ _ _ h => h) rfl hS (fun w hS => x_pickF (hF.tmp 84 rfl) rfl (hF.tmp 90 rfl)) rfl ?_; clear hF; intro a hF
            refine r_end (by kernel_rfl) ?_; clear hS
            refine hK16 _ _ ?_
            refine wp_cond_false (hF.tmp 91 rfl) ?_
            refine wp_skip ?_
            refine hK15 _ _ ?_
            refine wp_seq_k fun khK17 hK17 => ?_
            refine wp_seq_k fun khK18 hK18 => ?_
            refine wp_region_lit ?_
            refine l_at hF rfl rfl rfl (x_move (hF.tmp 10 rfl)) ?_; clear hF; intro a hF
            refine wpList_nil ?_
            refine hK18 _ _ ?_
            refine wp_cond_true (hF.tmp 92 rfl) ?_
            refine wp_seq_k fun khK19 hK19 => ?_
            refine wp_region_lit ?_
            refine wpList_plain rfl fun K hK => ?_
            refine w_call hF (x_enter Try.func14 (by kernel_rfl) rfl (by simp only [List.map_toArray, List.map_cons, List.map_nil] <;> rfl)) (alive_calls _) rfl rfl ?_
            rintro _ w ⟨rfl, hm_⟩; refine ⟨_, rfl, ?_⟩; clear hF; intro a hF; have hH := hH.same hm_
            refine hK _ _ ?_; clear hK K
            refine l_at hF rfl rfl rfl (x_move (hF.tmp 93 rfl)) ?_; clear hF; intro a hF
            refine l_atg hF ((wanted_of hF rfl rfl rfl rfl).trans rfl) rfl rfl (x_move (hF.tmp 14 rfl)) ?_; clear hF; intro a hF
            refine l_atg hF ((wanted_of hF rfl rfl rfl rfl).trans rfl) rfl rfl (x_b2s Try.underlying22 Try.underlying5 Try.underlying9 (Row.rd (ok' := fun k_ => (fun _ => False) k_ ∨ (.slice Ar61 ((some (gf xsa (k : Int)).2).getD []).length cr61 : Value).ownBlock = some k_) (hH.row 61 rfl) (fun _ hk_ _ => .inl hk_) (fun _ hk_ => .inr hk_)) (hF.tmp 95 rfl)) ?_; clear hF; intro a hF
            refine l_atg hF ((wanted_of hF rfl rfl rfl rfl).trans rfl) rfl rfl (x_move (hF.tmp 9 rfl)) ?_; clear hF; intro a hF
            refine l_atg hF ((wanted_of hF rfl rfl rfl rfl).trans rfl) rfl rfl (x_b2s Try.underlying22 Try.underlying5 Try.underlying9 (Row.rd (ok' := fun k_ => (fun _ => False) k_ ∨ (.slice Ar30 (gf xsa (k : Int)).2.length cr30 : Value).ownBlock = some k_) (hH.row 30 rfl) (fun _ hk_ _ => .inl hk_) (fun _ hk_ => .inr hk_)) (hF.tmp 97 rfl)) ?_; clear hF; intro a hF
            refine l_atg hF ((wanted_of hF rfl rfl rfl rfl).trans rfl) rfl rfl (x_eqs (hF.tmp 96 rfl) (hF.tmp 98 rfl)) ?_; clear hF; intro a hF
            rw [decide_eq_true (rfl)] at hF
            refine l_at hF rfl rfl rfl (x_pickT (hF.tmp 94 rfl) rfl (hF.tmp 99 rfl)) ?_; clear hF; intro a hF
            refine l_at hF rfl rfl rfl (x_assign (hF.tmp 100 rfl)) ?_; clear hF; intro a hF
            refine wpList_nil ?_
            refine hK19 _ _ ?_
            refine wp_ret ?_
            try simp only [Exit.then, Exit.inBlock]
            exact fin_ret hF (res1 hF rfl rfl) ⟨rfl, hH.mods⟩
        · have hc37 := hb37; try simp only [Bool.or_eq_true, Bool.and_eq_true, Bool.or_eq_false_iff, Bool.and_eq_false_iff, Bool.not_eq_true', Bool.not_eq_false', decide_eq_true_eq, decide_eq_false_iff_not, Bool.not_true, Bool.not_false] at hc37
          have hfa := take_all (by omega) hq0_1
          have hq := find_app_none (ys := xsb) hfa
          have hk : ¬ ((k : Int) < (xsa.length : Int)) := hc37
          rw [hfa] at hF
          rw [hfa] at hH
          refine l_offg hF ((wanted_of hF rfl rfl rfl rfl).trans (by rw [hb37]; rfl)) rfl rfl ?_; clear hF; intro a hF
          refine l_offg hF ((wanted_of hF rfl rfl rfl rfl).trans (by rw [hb37]; rfl)) rfl rfl ?_; clear hF; intro a hF
          refine l_offg hF ((wanted_of hF rfl rfl rfl rfl).trans (by rw [hb37]; rfl)) rfl rfl ?_; clear hF; intro a hF
          refine l_offg hF ((wanted_of hF rfl rfl rfl rfl).trans (by rw [hb37]; rfl)) rfl rfl ?_; clear hF; intro a hF
          refine l_offg hF ((wanted_of hF rfl rfl rfl rfl).trans (by rw [hb37]; rfl)) rfl rfl ?_; clear hF; intro a hF
          refine l_offg hF ((wanted_of hF rfl rfl rfl rfl).trans (by rw [hb37]; rfl)) rfl rfl ?_; clear hF; intro a hF
          refine l_offg hF ((wanted_of hF rfl rfl rfl rfl).trans (by rw [hb37]; rfl)) rfl rfl ?_; clear hF; intro a hF
          refine l_at hF rfl rfl rfl (x_pickF (hF.tmp 37 rfl) hb37 rfl) ?_; clear hF; intro a hF
          refine wpList_nil ?_
          refine hK12 _ _ ?_
          refine wp_cond_false (hF.tmp 45 rfl) ?_
          refine wp_exit ?_
          refine hK10 _ _ ?_
          refine wp_seq_k fun khK20 hK20 => ?_
          refine wp_region_lit ?_
          refine l_at hF rfl rfl rfl (x_move (hF.tmp 1 rfl)) ?_; clear hF; intro a hF
          refine l_at hF rfl rfl rfl (x_move (hF.tmp 2 rfl)) ?_; clear hF; intro a hF
          refine wpList_plain rfl fun K hK => ?_
          refine w_call hF (x_enter Try.func16 (by kernel_rfl) rfl (by simp only [List.map_toArray, List.map_cons, List.map_nil, hF.tmp 49 rfl, hF.tmp 50 rfl] <;> rfl)) (find_is ((hH.rd 902 rfl)) hsb rfl) rfl rfl ?_
          rintro _ w ⟨vr51, rfl, hm_, hr_⟩; refine ⟨_, rfl, ?_⟩; clear hF; intro a hF; have hH := Hp.rowOut hH 51 hm_ hr_; obtain ⟨Ar51, cr51, rfl⟩ := (hH.row 51 rfl).form
          refine hK _ _ ?_; clear hK K
          refine l_at hF rfl rfl rfl (x_move (hF.tmp 51 rfl)) ?_; clear hF; intro a hF
          refine l_at hF rfl rfl rfl (x_extract (hF.tmp 48 rfl) rfl) ?_; clear hF; intro a hF
          refine l_at hF rfl rfl rfl (x_extract (hF.tmp 48 rfl) rfl) ?_; clear hF; intro a hF
          refine l_at hF rfl rfl rfl (x_assign (hF.tmp 52 rfl)) ?_; clear hF; intro a hF
          refine l_at hF rfl rfl rfl (x_assign (hF.tmp 53 rfl)) ?_; clear hF; intro a hF
          refine wpList_nil ?_
          refine hK20 _ _ ?_
          refine wp_seq_k fun khK21 hK21 => ?_
          refine wp_region_lit ?_
          refine wpList_plain rfl fun K hK => ?_
          refine w_lit0 FE 55 hF hH rfl Try.underlying30 ty36 ?_
          clear hF hH; intro a w b55 hF hH
          refine hK _ _ ?_; clear hK K
          refine l_at hF rfl rfl rfl (x_move (hF.tmp 0 rfl)) ?_; clear hF; intro a hF
          refine wpList_plain rfl fun K hK => ?_
          refine w_append 55 901 hF hH rfl Try.underlying30 ty36 rfl rfl rfl rfl ((hH.rd 901 rfl)) (by intro k_ hk_; exact .inr hk_) (hF.tmp 55 rfl) (hF.tmp 56 rfl) (by simp only [List.length_append, List.length_nil] at *; omega) (by simp only [List.length_append, List.length_nil, maxLen] at *; omega) (fun k => (fun _ => False) k ∨ (fun k => k < w0.heap.size) k) (fun w' v' h => h) (by rintro k_ (hk_ | hk_); exact .inl hk_; exact .inr hk_) ?_
          clear hF hH; intro a w v57 hF hH
          refine hK _ _ ?_; clear hK K
          refine l_at hF rfl rfl rfl (x_move (hF.tmp 1 rfl)) ?_; clear hF; intro a hF
          refine wpList_plain rfl fun K hK => ?_
          refine w_append 55 902 hF hH rfl Try.underlying30 ty36 rfl rfl rfl rfl ((hH.rd 902 rfl)) (by intro k_ hk_; exact .inr hk_) (hF.tmp 57 rfl) (hF.tmp 58 rfl) (by simp only [List.length_append, List.length_nil] at *; omega) (by simp only [List.length_append, List.length_nil, maxLen] at *; omega) (fun k => (fun k => (fun _ => False) k ∨ (fun k => k < w0.heap.size) k) k ∨ (fun k => k < w0.heap.size) k) (fun w' v' h => h) (by rintro k_ (hk_ | hk_); exact .inl hk_; exact .inr hk_) ?_
          clear hF hH; intro a w v59 hF hH
          refine hK _ _ ?_; clear hK K
          obtain ⟨A59, c59, rfl⟩ := (hH.row 55 rfl).form
          refine l_at hF rfl rfl rfl (x_move (hF.tmp 2 rfl)) ?_; clear hF; intro a hF
          refine wpList_plain rfl fun K hK => ?_
          refine w_call hF (x_enter Try.func16 (by kernel_rfl) rfl (by simp only [List.map_toArray, List.map_cons, List.map_nil, hF.tmp 59 rfl, hF.tmp 60 rfl] <;> rfl)) (find_is (Row.rd (ok' := fun k_ => (fun k => (fun k => (fun _ => False) k ∨ (fun k => k < w0.heap.size) k) k ∨ (fun k => k < w0.heap.size) k) k_ ∨ (.slice A59 (([] ++ xsa) ++ xsb).length c59 : Value).ownBlock = some k_) (hH.row 55 rfl) (fun _ hk_ _ => .inl hk_) (fun _ hk_ => .inr hk_)) (short_app hsa hsb) hq) rfl rfl ?_
          rintro _ w ⟨vr61, rfl, hm_, hr_⟩; refine ⟨_, rfl, ?_⟩; clear hF; intro a hF; have hH := Hp.rowOut hH 61 hm_ hr_; obtain ⟨Ar61, cr61, rfl⟩ := (hH.row 61 rfl).form
          refine hK _ _ ?_; clear hK K
          refine l_at hF rfl rfl rfl (x_move (hF.tmp 61 rfl)) ?_; clear hF; intro a hF
          refine l_at hF rfl rfl rfl (x_extract (hF.tmp 54 rfl) rfl) ?_; clear hF; intro a hF
          refine l_at hF rfl rfl rfl (x_extract (hF.tmp 54 rfl) rfl) ?_; clear hF; intro a hF
          refine l_at hF rfl rfl rfl (x_assign (hF.tmp 62 rfl)) ?_; clear hF; intro a hF
          refine l_at hF rfl rfl rfl (x_assign (hF.tmp 63 rfl)) ?_; clear hF; intro a hF
          refine wpList_nil ?_
          refine hK21 _ _ ?_
          refine wp_seq_k fun khK22 hK22 => ?_
          refine wp_seq_k fun khK23 hK23 => ?_
          refine r_start [(30, .row (.int .u8) 5 (.slice Ar30 ([] : List Int).length cr30) [] (fun _ => False)), (901, .rd_ FE A1 xsa c1 (fun k => k < w0.heap.size))] (by kernel_rfl) hH fun hH => ?_
          have hS : SL [(30, .row (.int .u8) 5 (.slice Ar30 ([] : List Int).length cr30) [] (fun _ => False)), (901, .rd_ FE A1 xsa c1 (fun k => k < w0.heap.size))] _ := SL.of hH (sub_cons (sub_cons (sub_nil _) 901 rfl) 30 rfl)
          refine r_take 0 hF rfl rfl rfl (by kernel_rfl) (by kernel_rfl) (by kernel_rfl) (fun _ _ _ h => h) rfl hS (fun w hS => x_move (hF.tmp 10 rfl)) rfl ?_; clear hF; intro a hF
          refine r_take 1 hF rfl rfl rfl (by kernel_rfl) (by kernel_rfl) (by kernel_rfl) (fun _ _ _ h => h) rfl hS (fun w hS => x_move (hF.tmp 11 rfl)) rfl ?_; clear hF; intro a hF
          refine r_take 2 hF rfl rfl rfl (by kernel_rfl) (by kernel_rfl) (by kernel_rfl) (fun _ _ _ h => h) rfl hS (fun w hS => x_move (hF.tmp 0 rfl)) rfl ?_; clear hF; intro a hF
          refine r_take 3 hF rfl rfl rfl (by kernel_rfl) (by kernel_rfl) (by kernel_rfl) (fun _ _ _ h => h) rfl hS (fun w hS => x_len_slice Try.underlying30 (hF.tmp 66 rfl)) rfl ?_; clear hF; intro a hF
          refine r_take 4 hF rfl rfl rfl (by kernel_rfl) (by kernel_rfl) (by kernel_rfl) (fun _ _ _ h => h) rfl hS (fun w hS => x_lss (hF.tmp 65 rfl) (hF.tmp 67 rfl)) rfl ?_; clear hF; intro a hF
          rw [decide_eq_false hk] at hF
          refine r_take 5 hF rfl rfl rfl (by kernel_rfl) (by kernel_rfl) (by kernel_rfl) (fun _ _ _ h => h) rfl hS (fun w hS => x_neb (hF.tmp 64 rfl) (hF.tmp 68 rfl) Try.underlying4) rfl ?_; clear hF; intro a hF
          refine r_take 6 hF rfl rfl rfl (by kernel_rfl) (by kernel_rfl) (by kernel_rfl) (fun _ _ _ h => h) rfl hS (fun w hS => x_move (hF.tmp 69 rfl)) rfl ?_; clear hF; intro a hF
          refine r_take 7 hF rfl rfl rfl (by kernel_rfl) (by kernel_rfl) (by kernel_rfl) (fun _ _ _ h => h) ((wanted_of hF rfl rfl rfl rfl).trans rfl) hS (fun w hS => x_move (hF.tmp 10 rfl)) rfl ?_; clear hF; intro a hF
          refine r_take 8 hF rfl rfl rfl (by kernel_rfl) (by kernel_rfl) (by kernel_rfl) (fun _ _ _ h => h) ((wanted_of hF rfl rfl rfl rfl).trans rfl) hS (fun w hS => x_move (hF.tmp 71 rfl)) rfl ?_; clear hF; intro a hF
          refine r_off 9 hF rfl rfl rfl (by kernel_rfl) (by kernel_rfl) (by kernel_rfl) (fun _ _ _ h => h) ((wanted_of hF rfl rfl rfl rfl).trans rfl) hS rfl ?_; clear hF; intro a hF
          refine r_off 10 hF rfl rfl rfl (by kernel_rfl) (by kernel_rfl) (by kernel_rfl) (fun _ _ _ h => h) ((wanted_of hF rfl rfl rfl rfl).trans rfl) hS rfl ?_; clear hF; intro a hF
          refine r_off 11 hF rfl rfl rfl (by kernel_rfl) (by kernel_rfl) (by kernel_rfl) (fun _ _ _ h => h) ((wanted_of hF rfl rfl rfl rfl).trans rfl) hS rfl ?_; clear hF; intro a hF
          refine r_off 12 hF rfl rfl rfl (by kernel_rfl) (by kernel_rfl) (by kernel_rfl) (fun _ _ _ h => h) ((wanted_of hF rfl rfl rfl rfl).trans rfl) hS rfl ?_; clear hF; intro a hF
          refine r_off 13 hF rfl rfl rfl (by kernel_rfl) (by kernel_rfl) (by kernel_rfl) (fun _ _ _ h => h) ((wanted_of hF rfl rfl rfl rfl).trans rfl) hS rfl ?_; clear hF; intro a hF
          refine r_off 14 hF rfl rfl rfl (by kernel_rfl) (by kernel_rfl) (by kernel_rfl) (fun _ _ _ h => h) ((wanted_of hF rfl rfl rfl rfl).trans rfl) hS rfl ?_; clear hF; intro a hF
          refine r_off 15 hF rfl rfl rfl (by kernel_rfl) (by kernel_rfl) (by kernel_rfl) (fun _ _ _ h => h) ((wanted_of hF rfl rfl rfl rfl).trans rfl) hS rfl ?_; clear hF; intro a hF
          refine r_off 16 hF rfl rfl rfl (by kernel_rfl) (by kernel_rfl) (by kernel_rfl) (fun _ _ _ h => h) ((wanted_of hF rfl rfl rfl rfl).trans rfl) hS rfl ?_; clear hF; intro a hF
          refine r_off 17 hF rfl rfl rfl (by kernel_rfl) (by kernel_rfl) (by kernel_rfl) (fun _ _ _ h => h) ((wanted_of hF rfl rfl rfl rfl).trans rfl) hS rfl ?_; clear hF; intro a hF
          refine r_take 18 hF rfl rfl rfl (by kernel_rfl) (by kernel_rfl) (by kernel_rfl) (fun _ _ _ h => h) ((wanted_of hF rfl rfl rfl rfl).trans rfl) hS (fun w hS => x_pickF (hF.tmp 72 rfl) rfl rfl) rfl ?_; clear hF; intro a hF
          refine r_take 19 hF rfl rfl rfl (by kernel_rfl) (by kernel_rfl) (by kernel_rfl) (fun _ _ _ h => h) rfl hS (fun w hS => x_pickF (hF.tmp 70 rfl) rfl (hF.tmp 82 rfl)) rfl ?_; clear hF; intro a hF
          refine r_take 20 hF rfl rfl rfl (by kernel_rfl) (by kernel_rfl) (by kernel_rfl) (fun _ _ _ h => h) rfl hS (fun w hS => x_move (hF.tmp 83 rfl)) rfl ?_; clear hF; intro a hF
          refine r_take 21 hF rfl rfl rfl (by kernel_rfl) (by kernel_rfl) (by kernel_rfl) (fun _ _ _ h => h) ((wanted_of hF rfl rfl rfl rfl).trans rfl) hS (fun w hS => x_move (hF.tmp 15 rfl)) rfl ?_; clear hF; intro a hF
          refine r_take 22 hF rfl rfl rfl (by kernel_rfl) (by kernel_rfl) (by kernel_rfl) (fun _ _ _ h => h) ((wanted_of hF rfl rfl rfl rfl).trans rfl) hS (fun w hS => x_move (hF.tmp 10 rfl)) rfl ?_; clear hF; intro a hF
          refine r_take 23 hF rfl rfl rfl (by kernel_rfl) (by kernel_rfl) (by kernel_rfl) (fun _ _ _ h => h) ((wanted_of hF rfl rfl rfl rfl).trans rfl) hS (fun w hS => x_move (hF.tmp 86 rfl)) rfl ?_; clear hF; intro a hF
          refine r_take 24 hF rfl rfl rfl (by kernel_rfl) (by kernel_rfl) (by kernel_rfl) (fun _ _ _ h => h) ((wanted_of hF rfl rfl rfl rfl).trans rfl) hS (fun w hS => x_move (hF.tmp 13 rfl)) rfl ?_; clear hF; intro a hF
          refine r_take 25 hF rfl rfl rfl (by kernel_rfl) (by kernel_rfl) (by kernel_rfl) (fun _ _ _ h => h) ((wanted_of hF rfl rfl rfl rfl).trans rfl) hS (fun w hS => x_pickF (hF.tmp 87 rfl) rfl (hF.tmp 88 rfl)) rfl ?_; clear hF; intro a hF
          refine r_take 26 hF rfl rfl rfl (by kernel_rfl) (by kernel_rfl) (by kernel_rfl) (fun _ _ _ h => h) ((wanted_of hF rfl rfl rfl rfl).trans rfl) hS (fun w hS => x_neb (hF.tmp 85 rfl) (hF.tmp 89 rfl) Try.underlying4) rfl ?_; clear hF; intro a hF
          rw [beq_self_eq_true] at hF
          refine r_take 27 hF rfl rfl rfl (by kernel_rfl) (by kernel_rfl) (by kernel_rfl) (fun _ _ _ h => h) rfl hS (fun w hS => x_pickF (hF.tmp 84 rfl) rfl (hF.tmp 90 rfl)) rfl ?_; clear hF; intro a hF
          refine r_end (by kernel_rfl) ?_; clear hS
          refine hK23 _ _ ?_
          refine wp_cond_false (hF.tmp 91 rfl) ?_
          refine wp_skip ?_
          refine hK22 _ _ ?_
          refine wp_seq_k fun khK24 hK24 => ?_
          refine wp_seq_k fun khK25 hK25 => ?_
          refine wp_region_lit ?_
          refine l_at hF rfl rfl rfl (x_move (hF.tmp 10 rfl)) ?_; clear hF; intro a hF
          refine wpList_nil ?_
          refine hK25 _ _ ?_
          refine wp_cond_false (hF.tmp 92 rfl) ?_
          refine wp_skip ?_
          refine hK24 _ _ ?_
          refine wp_seq_k fun khK26 hK26 => ?_
          refine wp_region_lit ?_
          refine wpList_plain rfl fun K hK => ?_
          refine w_call hF (x_enter Try.func14 (by kernel_rfl) rfl (by simp only [List.map_toArray, List.map_cons, List.map_nil] <;> rfl)) (alive_calls _) rfl rfl ?_
          rintro _ w ⟨rfl, hm_⟩; refine ⟨_, rfl, ?_⟩; clear hF; intro a hF; have hH := hH.same hm_
          refine hK _ _ ?_; clear hK K
          refine l_at hF rfl rfl rfl (x_move (hF.tmp 101 rfl)) ?_; clear hF; intro a hF
          refine l_atg hF ((wanted_of hF rfl rfl rfl rfl).trans rfl) rfl rfl (x_move (hF.tmp 14 rfl)) ?_; clear hF; intro a hF
          refine l_atg hF ((wanted_of hF rfl rfl rfl rfl).trans rfl) rfl rfl (x_b2s Try.underlying22 Try.underlying5 Try.underlying9 (Row.rd (ok' := fun k_ => (fun _ => False) k_ ∨ (.slice Ar61 ((findI xsb tag).getD []).length cr61 : Value).ownBlock = some k_) (hH.row 61 rfl) (fun _ hk_ _ => .inl hk_) (fun _ hk_ => .inr hk_)) (hF.tmp 103 rfl)) ?_; clear hF; intro a hF
          refine l_atg hF ((wanted_of hF rfl rfl rfl rfl).trans rfl) rfl rfl (x_move (hF.tmp 12 rfl)) ?_; clear hF; intro a hF
          refine l_atg hF ((wanted_of hF rfl rfl rfl rfl).trans rfl) rfl rfl (x_b2s Try.underlying22 Try.underlying5 Try.underlying9 (Row.rd (ok' := fun k_ => (fun _ => False) k_ ∨ (.slice Ar51 ((findI xsb tag).getD []).length cr51 : Value).ownBlock = some k_) (hH.row 51 rfl) (fun _ hk_ _ => .inl hk_) (fun _ hk_ => .inr hk_)) (hF.tmp 105 rfl)) ?_; clear hF; intro a hF
          refine l_atg hF ((wanted_of hF rfl rfl rfl rfl).trans rfl) rfl rfl (x_eqs (hF.tmp 104 rfl) (hF.tmp 106 rfl)) ?_; clear hF; intro a hF
          rw [decide_eq_true (rfl)] at hF
          refine l_at hF rfl rfl rfl (x_pickT (hF.tmp 102 rfl) rfl (hF.tmp 107 rfl)) ?_; clear hF; intro a hF
          refine l_at hF rfl rfl rfl (x_assign (hF.tmp 108 rfl)) ?_; clear hF; intro a hF
          refine wpList_nil ?_
          refine hK26 _ _ ?_
          refine wp_ret ?_
          try simp only [Exit.then, Exit.inBlock]
          exact fin_ret hF (res1 hF rfl rfl) ⟨rfl, hH.mods⟩

set_option maxHeartbeats 1000000 in
theorem sizes_calls (w0 : World) {ok : Nat → Prop} {A : Option Addr} {xs : List Fld} {c : Nat} (hr : Rd FE w0 ok A xs c) {A3 : Option Addr} {ds : List Int} {c3 : Nat} (hr3 : Rd (.int .u8) w0 ok A3 ds c3) (p0 : Int) (hp : -9223372036854775808 ≤ p0) (hp2 : p0 < 9223372036854775808) (hb : BytesF xs) (hd : Bytes ds) : Calls Try.prog 5 #[.slice A xs.length c, .int .i64 p0, .slice A3 ds.length c3] w0 fun e w' => e = .returned (.bool true) ∧ Mods (fun _ => False) w0 w' := by
  refine calls_of_wp Try.func5 rfl ?_
  have hF := Fr.enter #[.slice A xs.length c, .int .i64 p0, .slice A3 ds.length c3] 129 (slotsOf [.slice A xs.length c, .int .i64 p0, .slice A3 ds.length c3] 0) (Nat.le_of_ble_eq_true rfl) (fun i v h => by have h2 := (get_slotsOf _ 0 i v h).2; simpa only [List.getElem?_toArray, Nat.sub_zero] using h2)
  have hH := Hp.nil (fun _ => False) w0
  rw [Try.ntmps5]
  revert hF; generalize (⟨(#[.slice A xs.length c, .int .i64 p0, .slice A3 ds.length c3] : Array Value) ++ Array.replicate (129 - (#[.slice A xs.length c, .int .i64 p0, .slice A3 ds.length c3] : Array Value).size) undef, []⟩ : Act) = a; intro hF
  have hH := hH.arg 901 hr.all (fun _ h => ⟨h, fun h => h⟩)
  have hle901 := hr.le; unfold maxLen at hle901
  have hH := hH.arg 903 hr3.all (fun _ h => ⟨h, fun h => h⟩)
  have hle903 := hr3.le; unfold maxLen at hle903
  refine wp_seq_k fun khK1 hK1 => ?_
  refine wp_region_lit ?_
  refine l_at hF rfl rfl rfl (x_assign rfl) ?_; clear hF; intro a hF
  refine wpList_nil ?_
  refine hK1 _ _ ?_
  refine wp_seq_k fun khK2 hK2 => ?_
  refine wp_region_lit ?_
  refine l_at hF rfl rfl rfl (x_move (hF.tmp 0 rfl)) ?_; clear hF; intro a hF
  refine wpList_plain rfl fun K hK => ?_
  refine w_call hF (x_enter Try.func13 (by kernel_rfl) rfl (by simp only [List.map_toArray, List.map_cons, List.map_nil, hF.tmp 15 rfl] <;> rfl)) (few_calls _ ((hH.rd 901 rfl))) rfl rfl ?_
  rintro _ w ⟨rfl, hm_⟩; refine ⟨_, rfl, ?_⟩; clear hF; intro a hF; have hH := hH.same hm_
  refine hK _ _ ?_; clear hK K
  refine l_at hF rfl rfl rfl (x_assign (hF.tmp 16 rfl)) ?_; clear hF; intro a hF
  refine wpList_nil ?_
  refine hK2 _ _ ?_
  refine wp_seq_k fun khK3 hK3 => ?_
  refine wp_seq_k fun khK4 hK4 => ?_
  refine wp_region_lit ?_
  refine l_at hF rfl rfl rfl (x_move (hF.tmp 7 rfl)) ?_; clear hF; intro a hF
  refine l_at hF rfl rfl rfl (x_not (hF.tmp 17 rfl)) ?_; clear hF; intro a hF
  refine l_at hF rfl rfl rfl (x_move (hF.tmp 18 rfl)) ?_; clear hF; intro a hF
  refine split_bool hF 19 rfl (fun hb19 => ?_) (fun hb19 => ?_)
  · have hc19 := hb19; try simp only [Bool.or_eq_true, Bool.and_eq_true, Bool.or_eq_false_iff, Bool.and_eq_false_iff, Bool.not_eq_true', Bool.not_eq_false', decide_eq_true_eq, decide_eq_false_iff_not, Bool.not_true, Bool.not_false] at hc19
    refine l_offg hF ((wanted_of hF rfl rfl rfl rfl).trans (by rw [hb19]; rfl)) rfl rfl ?_; clear hF; intro a hF
    refine l_offg hF ((wanted_of hF rfl rfl rfl rfl).trans (by rw [hb19]; rfl)) rfl rfl ?_; clear hF; intro a hF
    refine l_offg hF ((wanted_of hF rfl rfl rfl rfl).trans (by rw [hb19]; rfl)) rfl rfl ?_; clear hF; intro a hF
    refine l_at hF rfl rfl rfl (x_pickT (hF.tmp 19 rfl) hb19 rfl) ?_; clear hF; intro a hF
    refine l_at hF rfl rfl rfl (x_move (hF.tmp 23 rfl)) ?_; clear hF; intro a hF
    refine l_offg hF ((wanted_of hF rfl rfl rfl rfl).trans rfl) rfl rfl ?_; clear hF; intro a hF
    refine l_offg hF ((wanted_of hF rfl rfl rfl rfl).trans rfl) rfl rfl ?_; clear hF; intro a hF
    refine l_offg hF ((wanted_of hF rfl rfl rfl rfl).trans rfl) rfl rfl ?_; clear hF; intro a hF
    refine l_at hF rfl rfl rfl (x_pickT (hF.tmp 24 rfl) rfl rfl) ?_; clear hF; intro a hF
    refine wpList_nil ?_
    refine hK4 _ _ ?_
    refine wp_cond_true (hF.tmp 28 rfl) ?_
    refine wp_seq_k fun khK5 hK5 => ?_
    refine wp_region_lit ?_
    refine wpList_plain rfl fun K hK => ?_
    refine w_call hF (x_enter Try.func14 (by kernel_rfl) rfl (by simp only [List.map_toArray, List.map_cons, List.map_nil] <;> rfl)) (alive_calls _) rfl rfl ?_
    rintro _ w ⟨rfl, hm_⟩; refine ⟨_, rfl, ?_⟩; clear hF; intro a hF; have hH := hH.same hm_
    refine hK _ _ ?_; clear hK K
    refine l_at hF rfl rfl rfl (x_assign (hF.tmp 29 rfl)) ?_; clear hF; intro a hF
    refine wpList_nil ?_
    refine hK5 _ _ ?_
    refine wp_ret ?_
    try simp only [Exit.then, Exit.inBlock]
    exact fin_ret hF (res1 hF rfl rfl) ⟨rfl, hH.mods⟩
  · have hc19 := hb19; try simp only [Bool.or_eq_true, Bool.and_eq_true, Bool.or_eq_false_iff, Bool.and_eq_false_iff, Bool.not_eq_true', Bool.not_eq_false', decide_eq_true_eq, decide_eq_false_iff_not, Bool.not_true, Bool.not_false] at hc19
    have hla := few_len hc19
    have hsa := few_short hc19
    refine l_atg hF ((wanted_of hF rfl rfl rfl rfl).trans (by rw [hb19]; rfl)) rfl rfl (x_move (hF.tmp 0 rfl)) ?_; clear hF; intro a hF
    refine l_atg hF ((wanted_of hF rfl rfl rfl rfl).trans (by rw [hb19]; rfl)) rfl rfl (x_len_slice Try.underlying30 (hF.tmp 20 rfl)) ?_; clear hF; intro a hF
    refine l_atg hF ((wanted_of hF rfl rfl rfl rfl).trans (by rw [hb19]; rfl)) rfl rfl (x_eql (hF.tmp 21 rfl) rfl) ?_; clear hF; intro a hF
    refine l_at hF rfl rfl rfl (x_pickF (hF.tmp 19 rfl) hb19 (hF.tmp 22 rfl)) ?_; clear hF; intro a hF
    refine l_at hF rfl rfl rfl (x_move (hF.tmp 23 rfl)) ?_; clear hF; intro a hF
    refine split_bool hF 24 rfl (fun hb24 => ?_) (fun hb24 => ?_)
    · have hc24 := hb24; try simp only [Bool.or_eq_true, Bool.and_eq_true, Bool.or_eq_false_iff, Bool.and_eq_false_iff, Bool.not_eq_true', Bool.not_eq_false', decide_eq_true_eq, decide_eq_false_iff_not, Bool.not_true, Bool.not_false] at hc24
      refine l_offg hF ((wanted_of hF rfl rfl rfl rfl).trans (by rw [hb24]; rfl)) rfl rfl ?_; clear hF; intro a hF
      refine l_offg hF ((wanted_of hF rfl rfl rfl rfl).trans (by rw [hb24]; rfl)) rfl rfl ?_; clear hF; intro a hF
      refine l_offg hF ((wanted_of hF rfl rfl rfl rfl).trans (by rw [hb24]; rfl)) rfl rfl ?_; clear hF; intro a hF
      refine l_at hF rfl rfl rfl (x_pickT (hF.tmp 24 rfl) hb24 rfl) ?_; clear hF; intro a hF
      refine wpList_nil ?_
      refine hK4 _ _ ?_
      refine wp_cond_true (hF.tmp 28 rfl) ?_
      refine wp_seq_k fun khK6 hK6 => ?_
      refine wp_region_lit ?_
      refine wpList_plain rfl fun K hK => ?_
      refine w_call hF (x_enter Try.func14 (by kernel_rfl) rfl (by simp only [List.map_toArray, List.map_cons, List.map_nil] <;> rfl)) (alive_calls _) rfl rfl ?_
      rintro _ w ⟨rfl, hm_⟩; refine ⟨_, rfl, ?_⟩; clear hF; intro a hF; have hH := hH.same hm_
      refine hK _ _ ?_; clear hK K
      refine l_at hF rfl rfl rfl (x_assign (hF.tmp 29 rfl)) ?_; clear hF; intro a hF
      refine wpList_nil ?_
      refine hK6 _ _ ?_
      refine wp_ret ?_
      try simp only [Exit.then, Exit.inBlock]
      exact fin_ret hF (res1 hF rfl rfl) ⟨rfl, hH.mods⟩
    · have hc24 := hb24; try simp only [Bool.or_eq_true, Bool.and_eq_true, Bool.or_eq_false_iff, Bool.and_eq_false_iff, Bool.not_eq_true', Bool.not_eq_false', decide_eq_true_eq, decide_eq_false_iff_not, Bool.not_true, Bool.not_false] at hc24
      have hlen0 : 0 < xs.length := by omega
      refine l_atg hF ((wanted_of hF rfl rfl rfl rfl).trans (by rw [hb24]; rfl)) rfl rfl (x_move (hF.tmp 2 rfl)) ?_; clear hF; intro a hF
      refine l_atg hF ((wanted_of hF rfl rfl rfl rfl).trans (by rw [hb24]; rfl)) rfl rfl (x_len_slice Try.underlying22 (hF.tmp 25 rfl)) ?_; clear hF; intro a hF
      refine l_atg hF ((wanted_of hF rfl rfl rfl rfl).trans (by rw [hb24]; rfl)) rfl rfl (x_gtr (hF.tmp 26 rfl) rfl) ?_; clear hF; intro a hF
      refine l_at hF rfl rfl rfl (x_pickF (hF.tmp 24 rfl) hb24 (hF.tmp 27 rfl)) ?_; clear hF; intro a hF
      refine wpList_nil ?_
      refine hK4 _ _ ?_
      refine wp_cond_split (hF.tmp 28 rfl) (fun hc28 => ?_) (fun hc28 => ?_)
      · try simp only [Bool.or_eq_true, Bool.and_eq_true, Bool.or_eq_false_iff, Bool.and_eq_false_iff, Bool.not_eq_true', Bool.not_eq_false', decide_eq_true_eq, decide_eq_false_iff_not, Bool.not_true, Bool.not_false] at hc28
        refine wp_seq_k fun khK7 hK7 => ?_
        refine wp_region_lit ?_
        refine wpList_plain rfl fun K hK => ?_
        refine w_call hF (x_enter Try.func14 (by kernel_rfl) rfl (by simp only [List.map_toArray, List.map_cons, List.map_nil] <;> rfl)) (alive_calls _) rfl rfl ?_
        rintro _ w ⟨rfl, hm_⟩; refine ⟨_, rfl, ?_⟩; clear hF; intro a hF; have hH := hH.same hm_
        refine hK _ _ ?_; clear hK K
        refine l_at hF rfl rfl rfl (x_assign (hF.tmp 29 rfl)) ?_; clear hF; intro a hF
        refine wpList_nil ?_
        refine hK7 _ _ ?_
        refine wp_ret ?_
        try simp only [Exit.then, Exit.inBlock]
        exact fin_ret hF (res1 hF rfl rfl) ⟨rfl, hH.mods⟩
      · try simp only [Bool.or_eq_true, Bool.and_eq_true, Bool.or_eq_false_iff, Bool.and_eq_false_iff, Bool.not_eq_true', Bool.not_eq_false', decide_eq_true_eq, decide_eq_false_iff_not, Bool.not_true, Bool.not_false] at hc28
        refine wp_skip ?_
        refine hK3 _ _ ?_
        refine wp_seq_k fun khK8 hK8 => ?_
        refine wp_region_lit ?_
        refine l_at hF rfl rfl rfl (x_move (hF.tmp 0 rfl)) ?_; clear hF; intro a hF
        refine wpList_plain rfl fun K hK => ?_
        refine w_call hF (x_enter Try.func15 (by kernel_rfl) rfl (by simp only [List.map_toArray, List.map_cons, List.map_nil, hF.tmp 31 rfl] <;> rfl)) (enc_calls _ ((hH.rd 901 rfl))) rfl rfl ?_
        rintro _ w ⟨vr32, rfl, hm_, hr_⟩; refine ⟨_, rfl, ?_⟩; clear hF; intro a hF; have hH := Hp.rowOut hH 32 hm_ hr_; obtain ⟨Ar32, cr32, rfl⟩ := (hH.row 32 rfl).form
        refine hK _ _ ?_; clear hK K
        refine l_at hF rfl rfl rfl (x_move (hF.tmp 32 rfl)) ?_; clear hF; intro a hF
        refine l_at hF rfl rfl rfl (x_extract (hF.tmp 30 rfl) rfl) ?_; clear hF; intro a hF
        refine l_at hF rfl rfl rfl (x_extract (hF.tmp 30 rfl) rfl) ?_; clear hF; intro a hF
        refine l_at hF rfl rfl rfl (x_assign (hF.tmp 33 rfl)) ?_; clear hF; intro a hF
        refine l_at hF rfl rfl rfl (x_assign (hF.tmp 34 rfl)) ?_; clear hF; intro a hF
        refine wpList_nil ?_
        refine hK8 _ _ ?_
        refine wp_seq_k fun khK9 hK9 => ?_
        refine wp_seq_k fun khK10 hK10 => ?_
        refine wp_region_lit ?_
        refine l_at hF rfl rfl rfl (x_move (hF.tmp 9 rfl)) ?_; clear hF; intro a hF
        refine l_at hF rfl rfl rfl (x_neq (hF.tmp 35 rfl) rfl) ?_; clear hF; intro a hF
        refine wpList_nil ?_
        refine hK10 _ _ ?_
        refine wp_cond_split (hF.tmp 36 rfl) (fun hc36 => ?_) (fun hc36 => ?_)
        · try simp only [Bool.or_eq_true, Bool.and_eq_true, Bool.or_eq_false_iff, Bool.and_eq_false_iff, Bool.not_eq_true', Bool.not_eq_false', decide_eq_true_eq, decide_eq_false_iff_not, Bool.not_true, Bool.not_false] at hc36
          refine wp_seq_k fun khK11 hK11 => ?_
          refine wp_region_lit ?_
          refine wpList_plain rfl fun K hK => ?_
          refine w_call hF (x_enter Try.func14 (by kernel_rfl) rfl (by simp only [List.map_toArray, List.map_cons, List.map_nil] <;> rfl)) (alive_calls _) rfl rfl ?_
          rintro _ w ⟨rfl, hm_⟩; refine ⟨_, rfl, ?_⟩; clear hF; intro a hF; have hH := hH.same hm_
          refine hK _ _ ?_; clear hK K
          refine l_at hF rfl rfl rfl (x_assign (hF.tmp 37 rfl)) ?_; clear hF; intro a hF
          refine wpList_nil ?_
          refine hK11 _ _ ?_
          refine wp_ret ?_
          try simp only [Exit.then, Exit.inBlock]
          exact fin_ret hF (res1 hF rfl rfl) ⟨rfl, hH.mods⟩
        · try simp only [Bool.or_eq_true, Bool.and_eq_true, Bool.or_eq_false_iff, Bool.and_eq_false_iff, Bool.not_eq_true', Bool.not_eq_false', decide_eq_true_eq, decide_eq_false_iff_not, Bool.not_true, Bool.not_false] at hc36
          have hwell := enc_eq hc36
          rw [hwell.1, Option.getD_some] at hF
          rw [hwell.1, Option.getD_some] at hH
          refine wp_skip ?_
          refine hK9 _ _ ?_
          refine wp_seq_k fun khK12 hK12 => ?_
          refine wp_region_lit ?_
          refine l_at hF rfl rfl rfl (x_assign (show _ = Value.int .i64 (((encI (xs.take 0)).length : Nat) : Int) from rfl)) ?_; clear hF; intro a hF
          refine wpList_nil ?_
          refine hK12 _ _ ?_
          refine wp_seq_k fun khK13 hK13 => ?_
          refine wp_seq_k fun khK14 hK14 => ?_
          refine wp_region_lit ?_
          refine l_at hF rfl rfl rfl (x_assign rfl) ?_; clear hF; intro a hF
          refine wpList_nil ?_
          refine hK14 _ _ ?_
          refine wp_block ?_
          refine wp_loop_ghost (fun n_ a w => ∃ k : Nat, n_ = xs.length - k ∧ (k ≤ xs.length) ∧ Fr 129 a [(0, .slice A xs.length c), (1, .int .i64 p0), (2, .slice A3 ds.length c3), (8, .slice Ar32 (encI xs).length cr32), (10, .int .i64 ((encI (xs.take k)).length : Int)), (11, .int .i64 (k : Int))] ∧ Hp (fun _ => False) w0 w [(901, .rd_ FE A xs c (fun k => k < w0.heap.size)), (903, .rd_ (.int .u8) A3 ds c3 (fun k => k < w0.heap.size)), (32, .row (.int .u8) 5 (.slice Ar32 (encI xs).length cr32) (encI xs) (fun _ => False))]) (xs.length) ?_ ?_
          · exact ⟨0, rfl, by omega, ((((((hF.bare.add hF 11 rfl).add hF 10 rfl).add hF 8 rfl).add hF 2 rfl).add hF 1 rfl).add hF 0 rfl), hH.sub _ (sub_cons (sub_cons (sub_cons (sub_nil _) 32 rfl) 903 rfl) 901 rfl)⟩
          · rintro _ a w ⟨k, rfl, hq0_0, hF, hH⟩
            refine wp_seq_k fun khK15 hK15 => ?_
            refine wp_seq_k fun khK16 hK16 => ?_
            refine wp_region_lit ?_
            refine l_at hF rfl rfl rfl (x_move (hF.tmp 11 rfl)) ?_; clear hF; intro a hF
            refine l_at hF rfl rfl rfl (x_move (hF.tmp 0 rfl)) ?_; clear hF; intro a hF
            refine l_at hF rfl rfl rfl (x_len_slice Try.underlying30 (hF.tmp 39 rfl)) ?_; clear hF; intro a hF
            refine l_at hF rfl rfl rfl (x_lss (hF.tmp 38 rfl) (hF.tmp 40 rfl)) ?_; clear hF; intro a hF
            refine wpList_nil ?_
            refine hK16 _ _ ?_
            refine wp_cond_split (hF.tmp 41 rfl) (fun hc41 => ?_) (fun hc41 => ?_)
            · try simp only [Bool.or_eq_true, Bool.and_eq_true, Bool.or_eq_false_iff, Bool.and_eq_false_iff, Bool.not_eq_true', Bool.not_eq_false', decide_eq_true_eq, decide_eq_false_iff_not, Bool.not_true, Bool.not_false] at hc41
              obtain ⟨fA1, fc1, hfr1, hf1_0, hf1_1, hfw1⟩ := Rd.fld ((hH.rd 901 rfl)) (gf_some (xs := xs) (i := (k : Int)) (by omega) (by omega))
              have hH := hH.subrd 901 rfl 1001 hfr1 (fun _ h => h)
              have hH := hH.subcel 901 rfl 1500 hf1_0 (Rd.inok ((hH.rd 901 rfl)) (by omega) _)
              have hH := hH.subcel 901 rfl 1501 hf1_1 (Rd.inok ((hH.rd 901 rfl)) (by omega) _)
              have hsb := size_bound hsa k (by omega)
              have hsg := short_gf hsa hc41
              refine wp_skip ?_
              refine hK15 _ _ ?_
              refine wp_seq_k fun khK17 hK17 => ?_
              refine wp_block ?_
              refine wp_region_lit ?_
              refine l_at hF rfl rfl rfl (x_move (hF.tmp 10 rfl)) ?_; clear hF; intro a hF
              refine l_at hF rfl rfl rfl (x_add (hF.tmp 44 rfl) rfl (w64 (by omega) (by omega))) ?_; clear hF; intro a hF
              refine l_at hF rfl rfl rfl (x_move (hF.tmp 0 rfl)) ?_; clear hF; intro a hF
              refine l_at hF rfl rfl rfl (x_move (hF.tmp 11 rfl)) ?_; clear hF; intro a hF
              refine l_at hF rfl rfl rfl (x_iaddr_A Try.underlying30 ty36 ((hH.rd 901 rfl)) (hF.tmp 46 rfl) (hF.tmp 47 rfl) (by omega) (by omega) _) ?_; clear hF; intro a hF
              refine l_at hF rfl rfl rfl (x_faddrA ((hH.rd 901 rfl)) (by omega) _ Try.underlying36 rfl ty22 (by decide) (hF.tmp 48 rfl) rfl) ?_; clear hF; intro a hF
              refine l_at hF rfl rfl rfl (x_load1 ty22 (hF.tmp 49 rfl) (hH.holds 1501 _ rfl)) ?_; clear hF; intro a hF
              refine l_at hF rfl rfl rfl (x_len_slice Try.underlying22 (hF.tmp 50 rfl)) ?_; clear hF; intro a hF
              refine l_at hF rfl rfl rfl (x_add (hF.tmp 45 rfl) (hF.tmp 51 rfl) (w64 (by omega) (by omega))) ?_; clear hF; intro a hF
              rw [size_step hc41] at hF
              refine l_at hF rfl rfl rfl (x_assign (hF.tmp 52 rfl)) ?_; clear hF; intro a hF
              refine wpList_nil ?_
              refine hK17 _ _ ?_
              refine wp_region_lit ?_
              refine l_at hF rfl rfl rfl (x_move (hF.tmp 11 rfl)) ?_; clear hF; intro a hF
              refine l_at hF rfl rfl rfl (x_add (hF.tmp 42 rfl) rfl (w64 (by omega) (by omega))) ?_; clear hF; intro a hF
              refine l_at hF rfl rfl rfl (x_assign (hF.tmp 43 rfl)) ?_; clear hF; intro a hF
              refine wpList_nil ?_
              exact ⟨_, by omega, ⟨k + 1, rfl, by omega, ((((((hF.bare.add hF 11 rfl).add hF 10 rfl).add hF 8 rfl).add hF 2 rfl).add hF 1 rfl).add hF 0 rfl), hH.sub _ (sub_cons (sub_cons (sub_cons (sub_nil _) 32 rfl) 903 rfl) 901 rfl)⟩⟩
            · try simp only [Bool.or_eq_true, Bool.and_eq_true, Bool.or_eq_false_iff, Bool.and_eq_false_iff, Bool.not_eq_true', Bool.not_eq_false', decide_eq_true_eq, decide_eq_false_iff_not, Bool.not_true, Bool.not_false] at hc41
              obtain rfl : k = xs.length := by omega
              rw [List.take_length] at hF
              refine wp_exit ?_
              refine hK13 _ _ ?_
              refine wp_seq_k fun khK18 hK18 => ?_
              refine wp_seq_k fun khK19 hK19 => ?_
              refine wp_region_lit ?_
              refine l_at hF rfl rfl rfl (x_move (hF.tmp 1 rfl)) ?_; clear hF; intro a hF
              refine l_at hF rfl rfl rfl (x_lss (hF.tmp 53 rfl) rfl) ?_; clear hF; intro a hF
              refine wpList_nil ?_
              refine hK19 _ _ ?_
              have hJ54 : ∀ a w, ∀ p : Int, (0 ≤ p) → Fr 129 a [(0, .slice A xs.length c), (1, .int .i64 p), (2, .slice A3 ds.length c3), (8, .slice Ar32 (encI xs).length cr32), (10, .int .i64 ((encI xs).length : Int))] → Hp (fun _ => False) w0 w [(901, .rd_ FE A xs c (fun k => k < w0.heap.size)), (903, .rd_ (.int .u8) A3 ds c3 (fun k => k < w0.heap.size)), (32, .row (.int .u8) 5 (.slice Ar32 (encI xs).length cr32) (encI xs) (fun _ => False))] → khK18 a w := by
                intro a w p hj54_0 hF hH
                refine hK18 a w ?_
                refine wp_seq_k fun khK20 hK20 => ?_
                refine wp_region_lit ?_
                refine l_at hF rfl rfl rfl (x_move (hF.tmp 1 rfl)) ?_; clear hF; intro a hF
                refine l_at hF rfl rfl rfl (x_move (hF.tmp 0 rfl)) ?_; clear hF; intro a hF
                refine l_at hF rfl rfl rfl (x_len_slice Try.underlying30 (hF.tmp 59 rfl)) ?_; clear hF; intro a hF
                obtain ⟨q, hq, hqe⟩ := rem_at hj54_0 hlen0
                refine l_at hF rfl rfl rfl (x_rem (hF.tmp 58 rfl) (hF.tmp 60 rfl) (by omega) hqe) ?_; clear hF; intro a hF
                refine l_at hF rfl rfl rfl (x_assign (hF.tmp 61 rfl)) ?_; clear hF; intro a hF
                refine wpList_nil ?_
                refine hK20 _ _ ?_
                refine wp_seq_k fun khK21 hK21 => ?_
                refine wp_region_lit ?_
                refine wpList_plain rfl fun K hK => ?_
                refine w_lit0 FE 62 hF hH rfl Try.underlying30 ty36 ?_
                clear hF hH; intro a w b62 hF hH
                refine hK _ _ ?_; clear hK K
                refine l_at hF rfl rfl rfl (x_move (hF.tmp 0 rfl)) ?_; clear hF; intro a hF
                refine wpList_plain rfl fun K hK => ?_
                refine w_append 62 901 hF hH rfl Try.underlying30 ty36 rfl rfl rfl rfl ((hH.rd 901 rfl)) (by intro k_ hk_; exact .inr hk_) (hF.tmp 62 rfl) (hF.tmp 63 rfl) (by simp only [List.length_append, List.length_nil] at *; omega) (by simp only [List.length_append, List.length_nil, maxLen] at *; omega) (fun k => (fun _ => False) k ∨ (fun k => k < w0.heap.size) k) (fun w' v' h => h) (by rintro k_ (hk_ | hk_); exact .inl hk_; exact .inr hk_) ?_
                clear hF hH; intro a w v64 hF hH
                refine hK _ _ ?_; clear hK K
                obtain ⟨A64, c64, rfl⟩ := (hH.row 62 rfl).form
                rw [List.nil_append] at hF
                rw [List.nil_append] at hH
                refine l_at hF rfl rfl rfl (x_assign (hF.tmp 64 rfl)) ?_; clear hF; intro a hF
                refine wpList_nil ?_
                refine hK21 _ _ ?_
                refine wp_seq_k fun khK22 hK22 => ?_
                refine wp_region_lit ?_
                refine l_at hF rfl rfl rfl (x_move (hF.tmp 12 rfl)) ?_; clear hF; intro a hF
                refine l_at hF rfl rfl rfl (x_move (hF.tmp 1 rfl)) ?_; clear hF; intro a hF
                refine l_at hF rfl rfl rfl (x_move (hF.tmp 2 rfl)) ?_; clear hF; intro a hF
                refine l_at hF rfl rfl rfl (x_iaddr_A Try.underlying30 ty36 (Row.rd (ok' := fun k_ => (fun k => (fun _ => False) k ∨ (fun k => k < w0.heap.size) k) k_ ∨ (.slice A64 xs.length c64 : Value).ownBlock = some k_) (hH.row 62 rfl) (fun _ hk_ _ => .inl hk_) (fun _ hk_ => .inr hk_)) (hF.tmp 65 rfl) (hF.tmp 66 rfl) (by omega) (by omega) _) ?_; clear hF; intro a hF
                refine l_at hF rfl rfl rfl (x_faddrA (Row.rd (ok' := fun k_ => (fun k => (fun _ => False) k ∨ (fun k => k < w0.heap.size) k) k_ ∨ (.slice A64 xs.length c64 : Value).ownBlock = some k_) (hH.row 62 rfl) (fun _ hk_ _ => .inl hk_) (fun _ hk_ => .inr hk_)) (by omega) _ Try.underlying36 rfl ty22 (by decide) (hF.tmp 68 rfl) rfl) ?_; clear hF; intro a hF
                refine wpList_plain rfl fun K hK => ?_
                refine w_storeEl 62 q 1 ((gf xs (q : Int)).1, ds) (fun k => (fun _ => False) k ∨ (fun k => k < w0.heap.size) k) hH ty22 rfl (gf_some (i := (q : Int)) (by omega) (by omega)) (hF.tmp 69 rfl) (hF.tmp 67 rfl) rfl (by simp [Value.cells, Value.oneCell']) (by decide) (fun cs hcs => fld_put hcs ((hH.rd 903 rfl).move (fun _ _ _ => rfl) (fun _ h _ => .inr h))) (fun _ h => h) (fun _ h => .inl h) ?_
                clear hH; intro w hH
                refine hK _ _ ?_; clear hK K
                refine wpList_nil ?_
                refine hK22 _ _ ?_
                refine wp_seq_k fun khK23 hK23 => ?_
                refine wp_region_lit ?_
                refine l_at hF rfl rfl rfl (x_move (hF.tmp 12 rfl)) ?_; clear hF; intro a hF
                refine wpList_plain rfl fun K hK => ?_
                refine w_call hF (x_enter Try.func15 (by kernel_rfl) rfl (by simp only [List.map_toArray, List.map_cons, List.map_nil, hF.tmp 71 rfl]; rw [show xs.length = (xs.set q ((gf xs (q : Int)).1, ds)).length from (List.length_set ..).symm])) (enc_calls _ (Row.rd (ok' := fun k_ => (fun k => (fun _ => False) k ∨ (fun k => k < w0.heap.size) k) k_ ∨ (.slice A64 (xs.set q ((gf xs (q : Int)).1, ds)).length c64 : Value).ownBlock = some k_) (show Row FE 36 _ _ (.slice A64 (xs.set q ((gf xs (q : Int)).1, ds)).length c64) (xs.set q ((gf xs (q : Int)).1, ds)) from by have h := hH.row 62 rfl; rwa [show xs.length = (xs.set q ((gf xs (q : Int)).1, ds)).length from (List.length_set ..).symm] at h) (fun _ hk_ _ => .inl hk_) (fun _ hk_ => .inr hk_))) rfl rfl ?_
                rintro _ w ⟨vr72, rfl, hm_, hr_⟩; refine ⟨_, rfl, ?_⟩; clear hF; intro a hF; have hH := Hp.rowOut hH 72 hm_ hr_; obtain ⟨Ar72, cr72, rfl⟩ := (hH.row 72 rfl).form
                refine hK _ _ ?_; clear hK K
                refine l_at hF rfl rfl rfl (x_move (hF.tmp 72 rfl)) ?_; clear hF; intro a hF
                refine l_at hF rfl rfl rfl (x_extract (hF.tmp 70 rfl) rfl) ?_; clear hF; intro a hF
                refine l_at hF rfl rfl rfl (x_extract (hF.tmp 70 rfl) rfl) ?_; clear hF; intro a hF
                refine l_at hF rfl rfl rfl (x_assign (hF.tmp 73 rfl)) ?_; clear hF; intro a hF
                refine l_at hF rfl rfl rfl (x_assign (hF.tmp 74 rfl)) ?_; clear hF; intro a hF
                refine wpList_nil ?_
                refine hK23 _ _ ?_
                refine wp_seq_k fun khK24 hK24 => ?_
                refine wp_seq_k fun khK25 hK25 => ?_
                refine wp_region_lit ?_
                refine l_at hF rfl rfl rfl (x_move (hF.tmp 14 rfl)) ?_; clear hF; intro a hF
                refine l_at hF rfl rfl rfl (x_neq (hF.tmp 75 rfl) rfl) ?_; clear hF; intro a hF
                refine wpList_nil ?_
                refine hK25 _ _ ?_
                refine wp_cond_split (hF.tmp 76 rfl) (fun hc76 => ?_) (fun hc76 => ?_)
                · try simp only [Bool.or_eq_true, Bool.and_eq_true, Bool.or_eq_false_iff, Bool.and_eq_false_iff, Bool.not_eq_true', Bool.not_eq_false', decide_eq_true_eq, decide_eq_false_iff_not, Bool.not_true, Bool.not_false] at hc76
                  have hbad := enc_ne hc76
                  refine wp_seq_k fun khK26 hK26 => ?_
                  refine wp_region_lit ?_
                  refine wpList_plain rfl fun K hK => ?_
                  refine w_call hF (x_enter Try.func14 (by kernel_rfl) rfl (by simp only [List.map_toArray, List.map_cons, List.map_nil] <;> rfl)) (alive_calls _) rfl rfl ?_
                  rintro _ w ⟨rfl, hm_⟩; refine ⟨_, rfl, ?_⟩; clear hF; intro a hF; have hH := hH.same hm_
                  refine hK _ _ ?_; clear hK K
                  refine l_at hF rfl rfl rfl (x_move (hF.tmp 77 rfl)) ?_; clear hF; intro a hF
                  refine l_atg hF ((wanted_of hF rfl rfl rfl rfl).trans rfl) rfl rfl (x_move (hF.tmp 8 rfl)) ?_; clear hF; intro a hF
                  refine l_atg hF ((wanted_of hF rfl rfl rfl rfl).trans rfl) rfl rfl (x_len_slice Try.underlying22 (hF.tmp 79 rfl)) ?_; clear hF; intro a hF
                  refine l_atg hF ((wanted_of hF rfl rfl rfl rfl).trans rfl) rfl rfl (x_move (hF.tmp 10 rfl)) ?_; clear hF; intro a hF
                  refine l_atg hF ((wanted_of hF rfl rfl rfl rfl).trans rfl) rfl rfl (x_eql (hF.tmp 80 rfl) (hF.tmp 81 rfl)) ?_; clear hF; intro a hF
                  rw [decide_eq_true (rfl)] at hF
                  refine l_at hF rfl rfl rfl (x_pickT (hF.tmp 78 rfl) rfl (hF.tmp 82 rfl)) ?_; clear hF; intro a hF
                  refine l_at hF rfl rfl rfl (x_move (hF.tmp 83 rfl)) ?_; clear hF; intro a hF
                  refine l_atg hF ((wanted_of hF rfl rfl rfl rfl).trans rfl) rfl rfl (x_move (hF.tmp 2 rfl)) ?_; clear hF; intro a hF
                  refine l_atg hF ((wanted_of hF rfl rfl rfl rfl).trans rfl) rfl rfl (x_len_slice Try.underlying22 (hF.tmp 85 rfl)) ?_; clear hF; intro a hF
                  refine l_atg hF ((wanted_of hF rfl rfl rfl rfl).trans rfl) rfl rfl (x_gtr (hF.tmp 86 rfl) rfl) ?_; clear hF; intro a hF
                  rw [decide_eq_true (okF_new hq ds hwell.2 hbad.2)] at hF
                  refine l_at hF rfl rfl rfl (x_pickT (hF.tmp 84 rfl) rfl (hF.tmp 87 rfl)) ?_; clear hF; intro a hF
                  refine l_at hF rfl rfl rfl (x_assign (hF.tmp 88 rfl)) ?_; clear hF; intro a hF
                  refine wpList_nil ?_
                  refine hK26 _ _ ?_
                  refine wp_ret ?_
                  try simp only [Exit.then, Exit.inBlock]
                  exact fin_ret hF (res1 hF rfl rfl) ⟨rfl, hH.mods⟩
                · try simp only [Bool.or_eq_true, Bool.and_eq_true, Bool.or_eq_false_iff, Bool.and_eq_false_iff, Bool.not_eq_true', Bool.not_eq_false', decide_eq_true_eq, decide_eq_false_iff_not, Bool.not_true, Bool.not_false] at hc76
                  have hnew := enc_eq hc76
                  have hsb2 := size_bound hsa xs.length (Nat.le_refl _)
                  rw [List.take_length] at hsb2
                  have hsg2 := short_gf hsa (k := q) (by omega)
                  rw [hnew.1, Option.getD_some] at hF
                  rw [hnew.1, Option.getD_some] at hH
                  obtain ⟨fA4, fc4, hfr4, hf4_0, hf4_1, hfw4⟩ := Rd.fld ((hH.rd 901 rfl)) (gf_some (xs := xs) (i := (q : Int)) (by omega) (by omega))
                  have hH := hH.subrd 901 rfl 4001 hfr4 (fun _ h => h)
                  have hH := hH.subcel 901 rfl 4500 hf4_0 (Rd.inok ((hH.rd 901 rfl)) (by omega) _)
                  have hH := hH.subcel 901 rfl 4501 hf4_1 (Rd.inok ((hH.rd 901 rfl)) (by omega) _)
                  refine wp_skip ?_
                  refine hK24 _ _ ?_
                  refine wp_seq_k fun khK27 hK27 => ?_
                  refine r_start [(32, .row (.int .u8) 5 (.slice Ar32 (encI xs).length cr32) (encI xs) (fun _ => False)), (72, .row (.int .u8) 5 (.slice Ar72 (encI (xs.set q ((gf xs (q : Int)).1, ds))).length cr72) (encI (xs.set q ((gf xs (q : Int)).1, ds))) (fun _ => False)), (903, .rd_ (.int .u8) A3 ds c3 (fun k => k < w0.heap.size)), (901, .rd_ FE A xs c (fun k => k < w0.heap.size)), (4001, .rd_ (.int .u8) (fA4) (gf xs (q : Int)).2 fc4 (fun k => k < w0.heap.size)), (4501, .cel (adr A ((q : Int).toNat * 2 + 1)) (.slice fA4 (gf xs (q : Int)).2.length fc4))] (by kernel_rfl) hH fun hH => ?_
                  have hS : SL [(32, .row (.int .u8) 5 (.slice Ar32 (encI xs).length cr32) (encI xs) (fun _ => False)), (72, .row (.int .u8) 5 (.slice Ar72 (encI (xs.set q ((gf xs (q : Int)).1, ds))).length cr72) (encI (xs.set q ((gf xs (q : Int)).1, ds))) (fun _ => False)), (903, .rd_ (.int .u8) A3 ds c3 (fun k => k < w0.heap.size)), (901, .rd_ FE A xs c (fun k => k < w0.heap.size)), (4001, .rd_ (.int .u8) (fA4) (gf xs (q : Int)).2 fc4 (fun k => k < w0.heap.size)), (4501, .cel (adr A ((q : Int).toNat * 2 + 1)) (.slice fA4 (gf xs (q : Int)).2.length fc4))] _ := SL.of hH (sub_cons (sub_cons (sub_cons (sub_cons (sub_cons (sub_cons (sub_nil _) 4501 rfl) 4001 rfl) 901 rfl) 903 rfl) 72 rfl) 32 rfl)
                  refine r_do 0 rfl (by kernel_rfl) rfl rfl ?_
                  refine w_call hF (x_enter Try.func14 (by kernel_rfl) rfl (by simp only [List.map_toArray, List.map_cons, List.map_nil] <;> rfl)) (alive_calls _) rfl rfl ?_
                  rintro _ w ⟨rfl, hm_⟩; refine ⟨_, rfl, ?_⟩; clear hF; intro a hF; have hH := hH.same hm_
                  clear hS; have hS : SL _ _ := SL.of hH (sub_cons (sub_cons (sub_cons (sub_cons (sub_cons (sub_cons (sub_nil _) 4501 rfl) 4001 rfl) 901 rfl) 903 rfl) 72 rfl) 32 rfl); refine ⟨hS, ?_⟩
                  refine r_take 1 hF rfl rfl rfl (by kernel_rfl) (by kernel_rfl) (by kernel_rfl) (fun _ _ _ h => h) rfl hS (fun w hS => x_move (hF.tmp 89 rfl)) rfl ?_; clear hF; intro a hF
                  refine r_take 2 hF rfl rfl rfl (by kernel_rfl) (by kernel_rfl) (by kernel_rfl) (fun _ _ _ h => h) ((wanted_of hF rfl rfl rfl rfl).trans rfl) hS (fun w hS => x_move (hF.tmp 8 rfl)) rfl ?_; clear hF; intro a hF
                  refine r_take 3 hF rfl rfl rfl (by kernel_rfl) (by kernel_rfl) (by kernel_rfl) (fun _ _ _ h => h) ((wanted_of hF rfl rfl rfl rfl).trans rfl) hS (fun w hS => x_len_slice Try.underlying22 (hF.tmp 91 rfl)) rfl ?_; clear hF; intro a hF
                  refine r_take 4 hF rfl rfl rfl (by kernel_rfl) (by kernel_rfl) (by kernel_rfl) (fun _ _ _ h => h) ((wanted_of hF rfl rfl rfl rfl).trans rfl) hS (fun w hS => x_move (hF.tmp 10 rfl)) rfl ?_; clear hF; intro a hF
                  refine r_take 5 hF rfl rfl rfl (by kernel_rfl) (by kernel_rfl) (by kernel_rfl) (fun _ _ _ h => h) ((wanted_of hF rfl rfl rfl rfl).trans rfl) hS (fun w hS => x_eql (hF.tmp 92 rfl) (hF.tmp 93 rfl)) rfl ?_; clear hF; intro a hF
                  rw [decide_eq_true (rfl)] at hF
                  refine r_take 6 hF rfl rfl rfl (by kernel_rfl) (by kernel_rfl) (by kernel_rfl) (fun _ _ _ h => h) rfl hS (fun w hS => x_pickT (hF.tmp 90 rfl) rfl (hF.tmp 94 rfl)) rfl ?_; clear hF; intro a hF
                  refine r_take 7 hF rfl rfl rfl (by kernel_rfl) (by kernel_rfl) (by kernel_rfl) (fun _ _ _ h => h) rfl hS (fun w hS => x_move (hF.tmp 95 rfl)) rfl ?_; clear hF; intro a hF
                  refine r_take 8 hF rfl rfl rfl (by kernel_rfl) (by kernel_rfl) (by kernel_rfl) (fun _ _ _ h => h) ((wanted_of hF rfl rfl rfl rfl).trans rfl) hS (fun w hS => x_move (hF.tmp 13 rfl)) rfl ?_; clear hF; intro a hF
                  refine r_take 9 hF rfl rfl rfl (by kernel_rfl) (by kernel_rfl) (by kernel_rfl) (fun _ _ _ h => h) ((wanted_of hF rfl rfl rfl rfl).trans rfl) hS (fun w hS => x_len_slice Try.underlying22 (hF.tmp 97 rfl)) rfl ?_; clear hF; intro a hF
                  refine r_take 10 hF rfl rfl rfl (by kernel_rfl) (by kernel_rfl) (by kernel_rfl) (fun _ _ _ h => h) ((wanted_of hF rfl rfl rfl rfl).trans rfl) hS (fun w hS => x_move (hF.tmp 10 rfl)) rfl ?_; clear hF; intro a hF
                  refine r_take 11 hF rfl rfl rfl (by kernel_rfl) (by kernel_rfl) (by kernel_rfl) (fun _ _ _ h => h) ((wanted_of hF rfl rfl rfl rfl).trans rfl) hS (fun w hS => x_move (hF.tmp 0 rfl)) rfl ?_; clear hF; intro a hF
                  refine r_take 12 hF rfl rfl rfl (by kernel_rfl) (by kernel_rfl) (by kernel_rfl) (fun _ _ _ h => h) ((wanted_of hF rfl rfl rfl rfl).trans rfl) hS (fun w hS => x_move (hF.tmp 1 rfl)) rfl ?_; clear hF; intro a hF
                  refine r_take 13 hF rfl rfl rfl (by kernel_rfl) (by kernel_rfl) (by kernel_rfl) (fun _ _ _ h => h) ((wanted_of hF rfl rfl rfl rfl).trans rfl) hS (fun w hS => x_iaddr_A Try.underlying30 ty36 ((hH.rd 901 rfl)) (hF.tmp 100 rfl) (hF.tmp 101 rfl) (by omega) (by omega) _) rfl ?_; clear hF; intro a hF
                  refine r_take 14 hF rfl rfl rfl (by kernel_rfl) (by kernel_rfl) (by kernel_rfl) (fun _ _ _ h => h) ((wanted_of hF rfl rfl rfl rfl).trans rfl) hS (fun w hS => x_faddrA ((SL.rd hS 901 rfl)) (by omega) _ Try.underlying36 rfl ty22 (by decide) (hF.tmp 102 rfl) rfl) rfl ?_; clear hF; intro a hF
                  refine r_take 15 hF rfl rfl rfl (by kernel_rfl) (by kernel_rfl) (by kernel_rfl) (fun _ _ _ h => h) ((wanted_of hF rfl rfl rfl rfl).trans rfl) hS (fun w hS => x_load1 ty22 (hF.tmp 103 rfl) (hS 4501 _ rfl)) rfl ?_; clear hF; intro a hF
                  refine r_take 16 hF rfl rfl rfl (by kernel_rfl) (by kernel_rfl) (by kernel_rfl) (fun _ _ _ h => h) ((wanted_of hF rfl rfl rfl rfl).trans rfl) hS (fun w hS => x_len_slice Try.underlying22 (hF.tmp 104 rfl)) rfl ?_; clear hF; intro a hF
                  refine r_take 17 hF rfl rfl rfl (by kernel_rfl) (by kernel_rfl) (by kernel_rfl) (fun _ _ _ h => h) ((wanted_of hF rfl rfl rfl rfl).trans rfl) hS (fun w hS => x_sub (hF.tmp 99 rfl) (hF.tmp 105 rfl) (w64 (by omega) (by omega))) rfl ?_; clear hF; intro a hF
                  refine r_take 18 hF rfl rfl rfl (by kernel_rfl) (by kernel_rfl) (by kernel_rfl) (fun _ _ _ h => h) ((wanted_of hF rfl rfl rfl rfl).trans rfl) hS (fun w hS => x_move (hF.tmp 2 rfl)) rfl ?_; clear hF; intro a hF
                  refine r_take 19 hF rfl rfl rfl (by kernel_rfl) (by kernel_rfl) (by kernel_rfl) (fun _ _ _ h => h) ((wanted_of hF rfl rfl rfl rfl).trans rfl) hS (fun w hS => x_len_slice Try.underlying22 (hF.tmp 107 rfl)) rfl ?_; clear hF; intro a hF
                  refine r_take 20 hF rfl rfl rfl (by kernel_rfl) (by kernel_rfl) (by kernel_rfl) (fun _ _ _ h => h) ((wanted_of hF rfl rfl rfl rfl).trans rfl) hS (fun w hS => x_add (hF.tmp 106 rfl) (hF.tmp 108 rfl) (w64 (by omega) (by omega))) rfl ?_; clear hF; intro a hF
                  refine r_take 21 hF rfl rfl rfl (by kernel_rfl) (by kernel_rfl) (by kernel_rfl) (fun _ _ _ h => h) ((wanted_of hF rfl rfl rfl rfl).trans rfl) hS (fun w hS => x_eql (hF.tmp 98 rfl) (hF.tmp 109 rfl)) rfl ?_; clear hF; intro a hF
                  rw [decide_eq_true (len_new hq ds)] at hF
                  refine r_take 22 hF rfl rfl rfl (by kernel_rfl) (by kernel_rfl) (by kernel_rfl) (fun _ _ _ h => h) rfl hS (fun w hS => x_pickT (hF.tmp 96 rfl) rfl (hF.tmp 110 rfl)) rfl ?_; clear hF; intro a hF
                  refine r_take 23 hF rfl rfl rfl (by kernel_rfl) (by kernel_rfl) (by kernel_rfl) (fun _ _ _ h => h) rfl hS (fun w hS => x_move (hF.tmp 111 rfl)) rfl ?_; clear hF; intro a hF
                  refine r_take 24 hF rfl rfl rfl (by kernel_rfl) (by kernel_rfl) (by kernel_rfl) (fun _ _ _ h => h) ((wanted_of hF rfl rfl rfl rfl).trans rfl) hS (fun w hS => x_move (hF.tmp 8 rfl)) rfl ?_; clear hF; intro a hF
                  refine r_take 25 hF rfl rfl rfl (by kernel_rfl) (by kernel_rfl) (by kernel_rfl) (fun _ _ _ h => h) ((wanted_of hF rfl rfl rfl rfl).trans rfl) hS (fun w hS => x_b2s Try.underlying22 Try.underlying5 Try.underlying9 (Row.rd (ok' := fun k_ => (fun _ => False) k_ ∨ (.slice Ar32 (encI xs).length cr32 : Value).ownBlock = some k_) (SL.row hS 32 rfl) (fun _ hk_ _ => .inl hk_) (fun _ hk_ => .inr hk_)) (hF.tmp 113 rfl)) rfl ?_; clear hF; intro a hF
                  refine r_take 26 hF rfl rfl rfl (by kernel_rfl) (by kernel_rfl) (by kernel_rfl) (fun _ _ _ h => h) ((wanted_of hF rfl rfl rfl rfl).trans rfl) hS (fun w hS => x_move (hF.tmp 13 rfl)) rfl ?_; clear hF; intro a hF
                  refine r_take 27 hF rfl rfl rfl (by kernel_rfl) (by kernel_rfl) (by kernel_rfl) (fun _ _ _ h => h) ((wanted_of hF rfl rfl rfl rfl).trans rfl) hS (fun w hS => x_b2s Try.underlying22 Try.underlying5 Try.underlying9 (Row.rd (ok' := fun k_ => (fun _ => False) k_ ∨ (.slice Ar72 (encI (xs.set q ((gf xs (q : Int)).1, ds))).length cr72 : Value).ownBlock = some k_) (SL.row hS 72 rfl) (fun _ hk_ _ => .inl hk_) (fun _ hk_ => .inr hk_)) (hF.tmp 115 rfl)) rfl ?_; clear hF; intro a hF
                  refine r_take 28 hF rfl rfl rfl (by kernel_rfl) (by kernel_rfl) (by kernel_rfl) (fun _ _ _ h => h) ((wanted_of hF rfl rfl rfl rfl).trans rfl) hS (fun w hS => x_eqs (hF.tmp 114 rfl) (hF.tmp 116 rfl)) rfl ?_; clear hF; intro a hF
                  refine r_take 29 hF rfl rfl rfl (by kernel_rfl) (by kernel_rfl) (by kernel_rfl) (fun _ _ _ h => h) ((wanted_of hF rfl rfl rfl rfl).trans rfl) hS (fun w hS => x_move (hF.tmp 2 rfl)) rfl ?_; clear hF; intro a hF
                  refine r_take 30 hF rfl rfl rfl (by kernel_rfl) (by kernel_rfl) (by kernel_rfl) (fun _ _ _ h => h) ((wanted_of hF rfl rfl rfl rfl).trans rfl) hS (fun w hS => x_b2s Try.underlying22 Try.underlying5 Try.underlying9 ((SL.rd hS 903 rfl)) (hF.tmp 118 rfl)) rfl ?_; clear hF; intro a hF
                  refine r_take 31 hF rfl rfl rfl (by kernel_rfl) (by kernel_rfl) (by kernel_rfl) (fun _ _ _ h => h) ((wanted_of hF rfl rfl rfl rfl).trans rfl) hS (fun w hS => x_move (hF.tmp 0 rfl)) rfl ?_; clear hF; intro a hF
                  refine r_take 32 hF rfl rfl rfl (by kernel_rfl) (by kernel_rfl) (by kernel_rfl) (fun _ _ _ h => h) ((wanted_of hF rfl rfl rfl rfl).trans rfl) hS (fun w hS => x_move (hF.tmp 1 rfl)) rfl ?_; clear hF; intro a hF
                  refine r_take 33 hF rfl rfl rfl (by kernel_rfl) (by kernel_rfl) (by kernel_rfl) (fun _ _ _ h => h) ((wanted_of hF rfl rfl rfl rfl).trans rfl) hS (fun w hS => x_iaddr_A Try.underlying30 ty36 ((hH.rd 901 rfl)) (hF.tmp 120 rfl) (hF.tmp 121 rfl) (by omega) (by omega) _) rfl ?_; clear hF; intro a hF
                  refine r_take 34 hF rfl rfl rfl (by kernel_rfl) (by kernel_rfl) (by kernel_rfl) (fun _ _ _ h => h) ((wanted_of hF rfl rfl rfl rfl).trans rfl) hS (fun w hS => x_faddrA ((SL.rd hS 901 rfl)) (by omega) _ Try.underlying36 rfl ty22 (by decide) (hF.tmp 122 rfl) rfl) rfl ?_; clear hF; intro a hF
                  refine r_take 35 hF rfl rfl rfl (by kernel_rfl) (by kernel_rfl) (by kernel_rfl) (fun _ _ _ h => h) ((wanted_of hF rfl rfl rfl rfl).trans rfl) hS (fun w hS => x_load1 ty22 (hF.tmp 123 rfl) (hS 4501 _ rfl)) rfl ?_; clear hF; intro a hF
                  refine r_take 36 hF rfl rfl rfl (by kernel_rfl) (by kernel_rfl) (by kernel_rfl) (fun _ _ _ h => h) ((wanted_of hF rfl rfl rfl rfl).trans rfl) hS (fun w hS => x_b2s Try.underlying22 Try.underlying5 Try.underlying9 ((SL.rd hS 4001 rfl)) (hF.tmp 124 rfl)) rfl ?_; clear hF; intro a hF
                  refine r_take 37 hF rfl rfl rfl (by kernel_rfl) (by kernel_rfl) (by kernel_rfl) (fun _ _ _ h => h) ((wanted_of hF rfl rfl rfl rfl).trans rfl) hS (fun w hS => x_eqs (hF.tmp 119 rfl) (hF.tmp 125 rfl)) rfl ?_; clear hF; intro a hF
                  refine r_take 38 hF rfl rfl rfl (by kernel_rfl) (by kernel_rfl) (by kernel_rfl) (fun _ _ _ h => h) ((wanted_of hF rfl rfl rfl rfl).trans rfl) hS (fun w hS => x_eqb (hF.tmp 117 rfl) (hF.tmp 126 rfl) Try.underlying4) rfl ?_; clear hF; intro a hF
                  rw [same_new hq ds hwell.2 hnew.2 hb hd] at hF
                  refine r_take 39 hF rfl rfl rfl (by kernel_rfl) (by kernel_rfl) (by kernel_rfl) (fun _ _ _ h => h) rfl hS (fun w hS => x_pickT (hF.tmp 112 rfl) rfl (hF.tmp 127 rfl)) rfl ?_; clear hF; intro a hF
                  refine r_take 40 hF rfl rfl rfl (by kernel_rfl) (by kernel_rfl) (by kernel_rfl) (fun _ _ _ h => h) rfl hS (fun w hS => x_assign (hF.tmp 128 rfl)) rfl ?_; clear hF; intro a hF
                  refine r_end (by kernel_rfl) ?_; clear hS
                  refine hK27 _ _ ?_
                  refine wp_ret ?_
                  try simp only [Exit.then, Exit.inBlock]
                  exact fin_ret hF (res1 hF rfl rfl) ⟨rfl, hH.mods⟩
              refine wp_cond_split (hF.tmp 54 rfl) (fun hc54 => ?_) (fun hc54 => ?_)
              · try simp only [Bool.or_eq_true, Bool.and_eq_true, Bool.or_eq_false_iff, Bool.and_eq_false_iff, Bool.not_eq_true', Bool.not_eq_false', decide_eq_true_eq, decide_eq_false_iff_not, Bool.not_true, Bool.not_false] at hc54
                have hj0 : 0 ≤ -(p0 + 1) := by omega
                refine wp_region_lit ?_
                refine l_at hF rfl rfl rfl (x_move (hF.tmp 1 rfl)) ?_; clear hF; intro a hF
                refine l_at hF rfl rfl rfl (x_add (hF.tmp 55 rfl) rfl (w64 (by omega) (by omega))) ?_; clear hF; intro a hF
                refine l_at hF rfl rfl rfl (x_neg (hF.tmp 56 rfl) (show IntKind.i64.wrap (0 - (p0 + 1)) = -(p0 + 1) by rw [w64 (by omega) (by omega)]; omega)) ?_; clear hF; intro a hF
                refine l_at hF rfl rfl rfl (x_assign (hF.tmp 57 rfl)) ?_; clear hF; intro a hF
                refine wpList_nil ?_
                exact hJ54 _ _ _ hj0 (((((hF.bare.add hF 10 rfl).add hF 8 rfl).add hF 2 rfl).add hF 1 rfl).add hF 0 rfl) (hH.sub _ (sub_cons (sub_cons (sub_cons (sub_nil _) 32 rfl) 903 rfl) 901 rfl))
              · try simp only [Bool.or_eq_true, Bool.and_eq_true, Bool.or_eq_false_iff, Bool.and_eq_false_iff, Bool.not_eq_true', Bool.not_eq_false', decide_eq_true_eq, decide_eq_false_iff_not, Bool.not_true, Bool.not_false] at hc54
                have hj0 : 0 ≤ p0 := by omega
                refine wp_skip ?_
                exact hJ54 _ _ _ hj0 (((((hF.bare.add hF 10 rfl).add hF 8 rfl).add hF 2 rfl).add hF 1 rfl).add hF 0 rfl) (hH.sub _ (sub_cons (sub_cons (sub_cons (sub_nil _) 32 rfl) 903 rfl) 901 rfl))

set_option maxHeartbeats 1000000 in
theorem same_calls (w0 : World) {ok ok2 : Nat → Prop} {A1 A2 : Option Addr} {xsa xsb : List Fld} {c1 c2 : Nat} (hra : Rd FE w0 ok A1 xsa c1) (hrb : Rd FE w0 ok2 A2 xsb c2) : Calls Try.prog 24 #[.slice A1 xsa.length c1, .slice A2 xsb.length c2] w0 fun e w' => e = .returned (.bool (sameI xsa xsb)) ∧ Mods (fun _ => False) w0 w' := by
  refine calls_of_wp Try.func24 rfl ?_
  have hF := Fr.enter #[.slice A1 xsa.length c1, .slice A2 xsb.length c2] 43 (slotsOf [.slice A1 xsa.length c1, .slice A2 xsb.length c2] 0) (Nat.le_of_ble_eq_true rfl) (fun i v h => by have h2 := (get_slotsOf _ 0 i v h).2; simpa only [List.getElem?_toArray, Nat.sub_zero] using h2)
  have hH := Hp.nil (fun _ => False) w0
  rw [Try.ntmps24]
  revert hF; generalize (⟨(#[.slice A1 xsa.length c1, .slice A2 xsb.length c2] : Array Value) ++ Array.replicate (43 - (#[.slice A1 xsa.length c1, .slice A2 xsb.length c2] : Array Value).size) undef, []⟩ : Act) = a; intro hF
  have hH := hH.arg 901 hra.all (fun _ h => ⟨h, fun h => h⟩)
  have hle901 := hra.le; unfold maxLen at hle901
  have hH := hH.arg 902 hrb.all (fun _ h => ⟨h, fun h => h⟩)
  have hle902 := hrb.le; unfold maxLen at hle902
  refine wp_seq_k fun khK1 hK1 => ?_
  refine wp_region_lit ?_
  refine l_at hF rfl rfl rfl (x_assign rfl) ?_; clear hF; intro a hF
  refine wpList_nil ?_
  refine hK1 _ _ ?_
  refine wp_seq_k fun khK2 hK2 => ?_
  refine wp_seq_k fun khK3 hK3 => ?_
  refine wp_region_lit ?_
  refine l_at hF rfl rfl rfl (x_move (hF.tmp 0 rfl)) ?_; clear hF; intro a hF
  refine l_at hF rfl rfl rfl (x_len_slice Try.underlying30 (hF.tmp 6 rfl)) ?_; clear hF; intro a hF
  refine l_at hF rfl rfl rfl (x_move (hF.tmp 1 rfl)) ?_; clear hF; intro a hF
  refine l_at hF rfl rfl rfl (x_len_slice Try.underlying30 (hF.tmp 8 rfl)) ?_; clear hF; intro a hF
  refine l_at hF rfl rfl rfl (x_neq (hF.tmp 7 rfl) (hF.tmp 9 rfl)) ?_; clear hF; intro a hF
  refine wpList_nil ?_
  refine hK3 _ _ ?_
  refine wp_cond_split (hF.tmp 10 rfl) (fun hc10 => ?_) (fun hc10 => ?_)
  · try simp only [Bool.or_eq_true, Bool.and_eq_true, Bool.or_eq_false_iff, Bool.and_eq_false_iff, Bool.not_eq_true', Bool.not_eq_false', decide_eq_true_eq, decide_eq_false_iff_not, Bool.not_true, Bool.not_false] at hc10
    have hres := same_len hc10
    refine wp_seq_k fun khK4 hK4 => ?_
    refine wp_region_lit ?_
    refine l_at hF rfl rfl rfl (x_assign rfl) ?_; clear hF; intro a hF
    refine wpList_nil ?_
    refine hK4 _ _ ?_
    refine wp_ret ?_
    try simp only [Exit.then, Exit.inBlock]
    exact fin_ret hF (res1 hF rfl rfl) ⟨by rw [hres] <;> rfl, hH.mods⟩
  · try simp only [Bool.or_eq_true, Bool.and_eq_true, Bool.or_eq_false_iff, Bool.and_eq_false_iff, Bool.not_eq_true', Bool.not_eq_false', decide_eq_true_eq, decide_eq_false_iff_not, Bool.not_true, Bool.not_false] at hc10
    refine wp_skip ?_
    refine hK2 _ _ ?_
    refine wp_seq_k fun khK5 hK5 => ?_
    refine wp_seq_k fun khK6 hK6 => ?_
    refine wp_region_lit ?_
    refine l_at hF rfl rfl rfl (x_assign rfl) ?_; clear hF; intro a hF
    refine wpList_nil ?_
    refine hK6 _ _ ?_
    refine wp_block ?_
    refine wp_loop_ghost (fun n_ a w => ∃ k : Nat, n_ = xsa.length - k ∧ (k ≤ xsa.length) ∧ ((List.range k).all (sameP xsa xsb) = true) ∧ Fr 43 a [(0, .slice A1 xsa.length c1), (1, .slice A2 xsb.length c2), (5, .int .i64 (k : Int))] ∧ Hp (fun _ => False) w0 w [(901, .rd_ FE A1 xsa c1 (fun k => k < w0.heap.size)), (902, .rd_ FE A2 xsb c2 (fun k => k < w0.heap.size))]) (xsa.length) ?_ ?_
    · exact ⟨0, rfl, by omega, rfl, (((hF.bare.add hF 5 rfl).add hF 1 rfl).add hF 0 rfl), hH.sub _ (sub_cons (sub_cons (sub_nil _) 902 rfl) 901 rfl)⟩
    · rintro _ a w ⟨k, rfl, hq0_0, hq0_1, hF, hH⟩
      refine wp_seq_k fun khK7 hK7 => ?_
      refine wp_seq_k fun khK8 hK8 => ?_
      refine wp_region_lit ?_
      refine l_at hF rfl rfl rfl (x_move (hF.tmp 5 rfl)) ?_; clear hF; intro a hF
      refine l_at hF rfl rfl rfl (x_move (hF.tmp 0 rfl)) ?_; clear hF; intro a hF
      refine l_at hF rfl rfl rfl (x_len_slice Try.underlying30 (hF.tmp 12 rfl)) ?_; clear hF; intro a hF
      refine l_at hF rfl rfl rfl (x_lss (hF.tmp 11 rfl) (hF.tmp 13 rfl)) ?_; clear hF; intro a hF
      refine wpList_nil ?_
      refine hK8 _ _ ?_
      refine wp_cond_split (hF.tmp 14 rfl) (fun hc14 => ?_) (fun hc14 => ?_)
      · try simp only [Bool.or_eq_true, Bool.and_eq_true, Bool.or_eq_false_iff, Bool.and_eq_false_iff, Bool.not_eq_true', Bool.not_eq_false', decide_eq_true_eq, decide_eq_false_iff_not, Bool.not_true, Bool.not_false] at hc14
        obtain ⟨fA1, fc1, hfr1, hf1_0, hf1_1, hfw1⟩ := Rd.fld ((hH.rd 901 rfl)) (gf_some (xs := xsa) (i := (k : Int)) (by omega) (by omega))
        have hH := hH.subrd 901 rfl 1001 hfr1 (fun _ h => h)
        have hH := hH.subcel 901 rfl 1500 hf1_0 (Rd.inok ((hH.rd 901 rfl)) (by omega) _)
        have hH := hH.subcel 901 rfl 1501 hf1_1 (Rd.inok ((hH.rd 901 rfl)) (by omega) _)
        obtain ⟨fA2, fc2, hfr2, hf2_0, hf2_1, hfw2⟩ := Rd.fld ((hH.rd 902 rfl)) (gf_some (xs := xsb) (i := (k : Int)) (by omega) (by omega))
        have hH := hH.subrd 902 rfl 2001 hfr2 (fun _ h => h)
        have hH := hH.subcel 902 rfl 2500 hf2_0 (Rd.inok ((hH.rd 902 rfl)) (by omega) _)
        have hH := hH.subcel 902 rfl 2501 hf2_1 (Rd.inok ((hH.rd 902 rfl)) (by omega) _)
        refine wp_skip ?_
        refine hK7 _ _ ?_
        refine wp_seq_k fun khK9 hK9 => ?_
        refine wp_block ?_
        refine wp_seq_k fun khK10 hK10 => ?_
        refine r_start [(1500, .cel (adr A1 ((k : Int).toNat * 2)) (.int .i64 (gf xsa (k : Int)).1)), (1501, .cel (adr A1 ((k : Int).toNat * 2 + 1)) (.slice fA1 (gf xsa (k : Int)).2.length fc1)), (2500, .cel (adr A2 ((k : Int).toNat * 2)) (.int .i64 (gf xsb (k : Int)).1)), (2501, .cel (adr A2 ((k : Int).toNat * 2 + 1)) (.slice fA2 (gf xsb (k : Int)).2.length fc2)), (1001, .rd_ (.int .u8) (fA1) (gf xsa (k : Int)).2 fc1 (fun k => k < w0.heap.size)), (2001, .rd_ (.int .u8) (fA2) (gf xsb (k : Int)).2 fc2 (fun k => k < w0.heap.size)), (901, .rd_ FE A1 xsa c1 (fun k => k < w0.heap.size)), (902, .rd_ FE A2 xsb c2 (fun k => k < w0.heap.size))] (by kernel_rfl) hH fun hH => ?_
        have hS : SL [(1500, .cel (adr A1 ((k : Int).toNat * 2)) (.int .i64 (gf xsa (k : Int)).1)), (1501, .cel (adr A1 ((k : Int).toNat * 2 + 1)) (.slice fA1 (gf xsa (k : Int)).2.length fc1)), (2500, .cel (adr A2 ((k : Int).toNat * 2)) (.int .i64 (gf xsb (k : Int)).1)), (2501, .cel (adr A2 ((k : Int).toNat * 2 + 1)) (.slice fA2 (gf xsb (k : Int)).2.length fc2)), (1001, .rd_ (.int .u8) (fA1) (gf xsa (k : Int)).2 fc1 (fun k => k < w0.heap.size)), (2001, .rd_ (.int .u8) (fA2) (gf xsb (k : Int)).2 fc2 (fun k => k < w0.heap.size)), (901, .rd_ FE A1 xsa c1 (fun k => k < w0.heap.size)), (902, .rd_ FE A2 xsb c2 (fun k => k < w0.heap.size))] _ := SL.of hH (sub_cons (sub_cons (sub_cons (sub_cons (sub_cons (sub_cons (sub_cons (sub_cons (sub_nil _) 902 rfl) 901 rfl) 2001 rfl) 1001 rfl) 2501 rfl) 2500 rfl) 1501 rfl) 1500 rfl)
        refine r_take 0 hF rfl rfl rfl (by kernel_rfl) (by kernel_rfl) (by kernel_rfl) (fun _ _ _ h => h) rfl hS (fun w hS => x_move (hF.tmp 0 rfl)) rfl ?_; clear hF; intro a hF
        refine r_take 1 hF rfl rfl rfl (by kernel_rfl) (by kernel_rfl) (by kernel_rfl) (fun _ _ _ h => h) rfl hS (fun w hS => x_move (hF.tmp 5 rfl)) rfl ?_; clear hF; intro a hF
        refine r_take 2 hF rfl rfl rfl (by kernel_rfl) (by kernel_rfl) (by kernel_rfl) (fun _ _ _ h => h) rfl hS (fun w hS => x_iaddr_A Try.underlying30 ty36 ((hH.rd 901 rfl)) (hF.tmp 17 rfl) (hF.tmp 18 rfl) (by omega) (by omega) _) rfl ?_; clear hF; intro a hF
        refine r_take 3 hF rfl rfl rfl (by kernel_rfl) (by kernel_rfl) (by kernel_rfl) (fun _ _ _ h => h) rfl hS (fun w hS => x_faddrA ((SL.rd hS 901 rfl)) (by omega) _ Try.underlying36 rfl ty3 (by decide) (hF.tmp 19 rfl) rfl) rfl ?_; clear hF; intro a hF
        refine r_take 4 hF rfl rfl rfl (by kernel_rfl) (by kernel_rfl) (by kernel_rfl) (fun _ _ _ h => h) rfl hS (fun w hS => x_load1 ty3 (hF.tmp 20 rfl) (hS 1500 _ rfl)) rfl ?_; clear hF; intro a hF
        refine r_take 5 hF rfl rfl rfl (by kernel_rfl) (by kernel_rfl) (by kernel_rfl) (fun _ _ _ h => h) rfl hS (fun w hS => x_move (hF.tmp 1 rfl)) rfl ?_; clear hF; intro a hF
        refine r_take 6 hF rfl rfl rfl (by kernel_rfl) (by kernel_rfl) (by kernel_rfl) (fun _ _ _ h => h) rfl hS (fun w hS => x_move (hF.tmp 5 rfl)) rfl ?_; clear hF; intro a hF
        refine r_take 7 hF rfl rfl rfl (by kernel_rfl) (by kernel_rfl) (by kernel_rfl) (fun _ _ _ h => h) rfl hS (fun w hS => x_iaddr_A Try.underlying30 ty36 ((hH.rd 902 rfl)) (hF.tmp 22 rfl) (hF.tmp 23 rfl) (by omega) (by omega) _) rfl ?_; clear hF; intro a hF
        refine r_take 8 hF rfl rfl rfl (by kernel_rfl) (by kernel_rfl) (by kernel_rfl) (fun _ _ _ h => h) rfl hS (fun w hS => x_faddrA ((SL.rd hS 902 rfl)) (by omega) _ Try.underlying36 rfl ty3 (by decide) (hF.tmp 24 rfl) rfl) rfl ?_; clear hF; intro a hF
        refine r_take 9 hF rfl rfl rfl (by kernel_rfl) (by kernel_rfl) (by kernel_rfl) (fun _ _ _ h => h) rfl hS (fun w hS => x_load1 ty3 (hF.tmp 25 rfl) (hS 2500 _ rfl)) rfl ?_; clear hF; intro a hF
        refine r_take 10 hF rfl rfl rfl (by kernel_rfl) (by kernel_rfl) (by kernel_rfl) (fun _ _ _ h => h) rfl hS (fun w hS => x_neq (hF.tmp 21 rfl) (hF.tmp 26 rfl)) rfl ?_; clear hF; intro a hF
        refine r_take 11 hF rfl rfl rfl (by kernel_rfl) (by kernel_rfl) (by kernel_rfl) (fun _ _ _ h => h) rfl hS (fun w hS => x_move (hF.tmp 27 rfl)) rfl ?_; clear hF; intro a hF
        refine split_bool hF 28 rfl (fun hb28 => ?_) (fun hb28 => ?_)
        · have hc28 := hb28; try simp only [Bool.or_eq_true, Bool.and_eq_true, Bool.or_eq_false_iff, Bool.and_eq_false_iff, Bool.not_eq_true', Bool.not_eq_false', decide_eq_true_eq, decide_eq_false_iff_not, Bool.not_true, Bool.not_false] at hc28
          have hres := same_bad hc14 (sameP_tag hc28)
          refine r_off 12 hF rfl rfl rfl (by kernel_rfl) (by kernel_rfl) (by kernel_rfl) (fun _ _ _ h => h) ((wanted_of hF rfl rfl rfl rfl).trans (by rw [hb28]; rfl)) hS rfl ?_; clear hF; intro a hF
          refine r_off 13 hF rfl rfl rfl (by kernel_rfl) (by kernel_rfl) (by kernel_rfl) (fun _ _ _ h => h) ((wanted_of hF rfl rfl rfl rfl).trans (by rw [hb28]; rfl)) hS rfl ?_; clear hF; intro a hF
          refine r_off 14 hF rfl rfl rfl (by kernel_rfl) (by kernel_rfl) (by kernel_rfl) (fun _ _ _ h => h) ((wanted_of hF rfl rfl rfl rfl).trans (by rw [hb28]; rfl)) hS rfl ?_; clear hF; intro a hF
          refine r_off 15 hF rfl rfl rfl (by kernel_rfl) (by kernel_rfl) (by kernel_rfl) (fun _ _ _ h => h) ((wanted_of hF rfl rfl rfl rfl).trans (by rw [hb28]; rfl)) hS rfl ?_; clear hF; intro a hF
          refine r_off 16 hF rfl rfl rfl (by kernel_rfl) (by kernel_rfl) (by kernel_rfl) (fun _ _ _ h => h) ((wanted_of hF rfl rfl rfl rfl).trans (by rw [hb28]; rfl)) hS rfl ?_; clear hF; intro a hF
          refine r_off 17 hF rfl rfl rfl (by kernel_rfl) (by kernel_rfl) (by kernel_rfl) (fun _ _ _ h => h) ((wanted_of hF rfl rfl rfl rfl).trans (by rw [hb28]; rfl)) hS rfl ?_; clear hF; intro a hF
          refine r_off 18 hF rfl rfl rfl (by kernel_rfl) (by kernel_rfl) (by kernel_rfl) (fun _ _ _ h => h) ((wanted_of hF rfl rfl rfl rfl).trans (by rw [hb28]; rfl)) hS rfl ?_; clear hF; intro a hF
          refine r_off 19 hF rfl rfl rfl (by kernel_rfl) (by kernel_rfl) (by kernel_rfl) (fun _ _ _ h => h) ((wanted_of hF rfl rfl rfl rfl).trans (by rw [hb28]; rfl)) hS rfl ?_; clear hF; intro a hF
          refine r_off 20 hF rfl rfl rfl (by kernel_rfl) (by kernel_rfl) (by kernel_rfl) (fun _ _ _ h => h) ((wanted_of hF rfl rfl rfl rfl).trans (by rw [hb28]; rfl)) hS rfl ?_; clear hF; intro a hF
          refine r_off 21 hF rfl rfl rfl (by kernel_rfl) (by kernel_rfl) (by kernel_rfl) (fun _ _ _ h => h) ((wanted_of hF rfl rfl rfl rfl).trans (by rw [hb28]; rfl)) hS rfl ?_; clear hF; intro a hF
          refine r_off 22 hF rfl rfl rfl (by kernel_rfl) (by kernel_rfl) (by kernel_rfl) (fun _ _ _ h => h) ((wanted_of hF rfl rfl rfl rfl).trans (by rw [hb28]; rfl)) hS rfl ?_; clear hF; intro a hF
          refine r_off 23 hF rfl rfl rfl (by kernel_rfl) (by kernel_rfl) (by kernel_rfl) (fun _ _ _ h => h) ((wanted_of hF rfl rfl rfl rfl).trans (by rw [hb28]; rfl)) hS rfl ?_; clear hF; intro a hF
          refine r_off 24 hF rfl rfl rfl (by kernel_rfl) (by kernel_rfl) (by kernel_rfl) (fun _ _ _ h => h) ((wanted_of hF rfl rfl rfl rfl).trans (by rw [hb28]; rfl)) hS rfl ?_; clear hF; intro a hF
          refine r_take 25 hF rfl rfl rfl (by kernel_rfl) (by kernel_rfl) (by kernel_rfl) (fun _ _ _ h => h) rfl hS (fun w hS => x_pickT (hF.tmp 28 rfl) hb28 rfl) rfl ?_; clear hF; intro a hF
          refine r_end (by kernel_rfl) ?_; clear hS
          refine hK10 _ _ ?_
          refine wp_cond_true (hF.tmp 42 rfl) ?_
          refine wp_seq_k fun khK11 hK11 => ?_
          refine wp_region_lit ?_
          refine l_at hF rfl rfl rfl (x_assign rfl) ?_; clear hF; intro a hF
          refine wpList_nil ?_
          refine hK11 _ _ ?_
          refine wp_ret ?_
          try simp only [Exit.then, Exit.inBlock]
          exact fin_ret hF (res1 hF rfl rfl) ⟨by rw [hres] <;> rfl, hH.mods⟩
        · have hc28 := hb28; try simp only [Bool.or_eq_true, Bool.and_eq_true, Bool.or_eq_false_iff, Bool.and_eq_false_iff, Bool.not_eq_true', Bool.not_eq_false', decide_eq_true_eq, decide_eq_false_iff_not, Bool.not_true, Bool.not_false] at hc28
          refine r_take 12 hF rfl rfl rfl (by kernel_rfl) (by kernel_rfl) (by kernel_rfl) (fun _ _ _ h => h) ((wanted_of hF rfl rfl rfl rfl).trans (by rw [hb28]; rfl)) hS (fun w hS => x_move (hF.tmp 0 rfl)) rfl ?_; clear hF; intro a hF
          refine r_take 13 hF rfl rfl rfl (by kernel_rfl) (by kernel_rfl) (by kernel_rfl) (fun _ _ _ h => h) ((wanted_of hF rfl rfl rfl rfl).trans (by rw [hb28]; rfl)) hS (fun w hS => x_move (hF.tmp 5 rfl)) rfl ?_; clear hF; intro a hF
          refine r_take 14 hF rfl rfl rfl (by kernel_rfl) (by kernel_rfl) (by kernel_rfl) (fun _ _ _ h => h) ((wanted_of hF rfl rfl rfl rfl).trans (by rw [hb28]; rfl)) hS (fun w hS => x_iaddr_A Try.underlying30 ty36 ((hH.rd 901 rfl)) (hF.tmp 29 rfl) (hF.tmp 30 rfl) (by omega) (by omega) _) rfl ?_; clear hF; intro a hF
          refine r_take 15 hF rfl rfl rfl (by kernel_rfl) (by kernel_rfl) (by kernel_rfl) (fun _ _ _ h => h) ((wanted_of hF rfl rfl rfl rfl).trans (by rw [hb28]; rfl)) hS (fun w hS => x_faddrA ((SL.rd hS 901 rfl)) (by omega) _ Try.underlying36 rfl ty22 (by decide) (hF.tmp 31 rfl) rfl) rfl ?_; clear hF; intro a hF
          refine r_take 16 hF rfl rfl rfl (by kernel_rfl) (by kernel_rfl) (by kernel_rfl) (fun _ _ _ h => h) ((wanted_of hF rfl rfl rfl rfl).trans (by rw [hb28]; rfl)) hS (fun w hS => x_load1 ty22 (hF.tmp 32 rfl) (hS 1501 _ rfl)) rfl ?_; clear hF; intro a hF
          refine r_take 17 hF rfl rfl rfl (by kernel_rfl) (by kernel_rfl) (by kernel_rfl) (fun _ _ _ h => h) ((wanted_of hF rfl rfl rfl rfl).trans (by rw [hb28]; rfl)) hS (fun w hS => x_b2s Try.underlying22 Try.underlying5 Try.underlying9 ((SL.rd hS 1001 rfl)) (hF.tmp 33 rfl)) rfl ?_; clear hF; intro a hF
          refine r_take 18 hF rfl rfl rfl (by kernel_rfl) (by kernel_rfl) (by kernel_rfl) (fun _ _ _ h => h) ((wanted_of hF rfl rfl rfl rfl).trans (by rw [hb28]; rfl)) hS (fun w hS => x_move (hF.tmp 1 rfl)) rfl ?_; clear hF; intro a hF
          refine r_take 19 hF rfl rfl rfl (by kernel_rfl) (by kernel_rfl) (by kernel_rfl) (fun _ _ _ h => h) ((wanted_of hF rfl rfl rfl rfl).trans (by rw [hb28]; rfl)) hS (fun w hS => x_move (hF.tmp 5 rfl)) rfl ?_; clear hF; intro a hF
          refine r_take 20 hF rfl rfl rfl (by kernel_rfl) (by kernel_rfl) (by kernel_rfl) (fun _ _ _ h => h) ((wanted_of hF rfl rfl rfl rfl).trans (by rw [hb28]; rfl)) hS (fun w hS => x_iaddr_A Try.underlying30 ty36 ((hH.rd 902 rfl)) (hF.tmp 35 rfl) (hF.tmp 36 rfl) (by omega) (by omega) _) rfl ?_; clear hF; intro a hF
          refine r_take 21 hF rfl rfl rfl (by kernel_rfl) (by kernel_rfl) (by kernel_rfl) (fun _ _ _ h => h) ((wanted_of hF rfl rfl rfl rfl).trans (by rw [hb28]; rfl)) hS (fun w hS => x_faddrA ((SL.rd hS 902 rfl)) (by omega) _ Try.underlying36 rfl ty22 (by decide) (hF.tmp 37 rfl) rfl) rfl ?_; clear hF; intro a hF
          refine r_take 22 hF rfl rfl rfl (by kernel_rfl) (by kernel_rfl) (by kernel_rfl) (fun _ _ _ h => h) ((wanted_of hF rfl rfl rfl rfl).trans (by rw [hb28]; rfl)) hS (fun w hS => x_load1 ty22 (hF.tmp 38 rfl) (hS 2501 _ rfl)) rfl ?_; clear hF; intro a hF
          refine r_take 23 hF rfl rfl rfl (by kernel_rfl) (by kernel_rfl) (by kernel_rfl) (fun _ _ _ h => h) ((wanted_of hF rfl rfl rfl rfl).trans (by rw [hb28]; rfl)) hS (fun w hS => x_b2s Try.underlying22 Try.underlying5 Try.underlying9 ((SL.rd hS 2001 rfl)) (hF.tmp 39 rfl)) rfl ?_; clear hF; intro a hF
          refine r_take 24 hF rfl rfl rfl (by kernel_rfl) (by kernel_rfl) (by kernel_rfl) (fun _ _ _ h => h) ((wanted_of hF rfl rfl rfl rfl).trans (by rw [hb28]; rfl)) hS (fun w hS => x_nes (hF.tmp 34 rfl) (hF.tmp 40 rfl)) rfl ?_; clear hF; intro a hF
          refine r_take 25 hF rfl rfl rfl (by kernel_rfl) (by kernel_rfl) (by kernel_rfl) (fun _ _ _ h => h) rfl hS (fun w hS => x_pickF (hF.tmp 28 rfl) hb28 (hF.tmp 41 rfl)) rfl ?_; clear hF; intro a hF
          refine r_end (by kernel_rfl) ?_; clear hS
          refine hK10 _ _ ?_
          refine wp_cond_split (hF.tmp 42 rfl) (fun hc42 => ?_) (fun hc42 => ?_)
          · try simp only [Bool.or_eq_true, Bool.and_eq_true, Bool.or_eq_false_iff, Bool.and_eq_false_iff, Bool.not_eq_true', Bool.not_eq_false', decide_eq_true_eq, decide_eq_false_iff_not, Bool.not_true, Bool.not_false] at hc42
            have hres := same_bad hc14 (sameP_data hc42)
            refine wp_seq_k fun khK12 hK12 => ?_
            refine wp_region_lit ?_
            refine l_at hF rfl rfl rfl (x_assign rfl) ?_; clear hF; intro a hF
            refine wpList_nil ?_
            refine hK12 _ _ ?_
            refine wp_ret ?_
            try simp only [Exit.then, Exit.inBlock]
            exact fin_ret hF (res1 hF rfl rfl) ⟨by rw [hres] <;> rfl, hH.mods⟩
          · try simp only [Bool.or_eq_true, Bool.and_eq_true, Bool.or_eq_false_iff, Bool.and_eq_false_iff, Bool.not_eq_true', Bool.not_eq_false', decide_eq_true_eq, decide_eq_false_iff_not, Bool.not_true, Bool.not_false] at hc42
            have hstep := same_step hq0_1 (sameP_yes hc28 hc42)
            refine wp_skip ?_
            refine hK9 _ _ ?_
            refine wp_region_lit ?_
            refine l_at hF rfl rfl rfl (x_move (hF.tmp 5 rfl)) ?_; clear hF; intro a hF
            refine l_at hF rfl rfl rfl (x_add (hF.tmp 15 rfl) rfl (w64 (by omega) (by omega))) ?_; clear hF; intro a hF
            refine l_at hF rfl rfl rfl (x_assign (hF.tmp 16 rfl)) ?_; clear hF; intro a hF
            refine wpList_nil ?_
            exact ⟨_, by omega, ⟨k + 1, rfl, by omega, hstep, (((hF.bare.add hF 5 rfl).add hF 1 rfl).add hF 0 rfl), hH.sub _ (sub_cons (sub_cons (sub_nil _) 902 rfl) 901 rfl)⟩⟩
      · try simp only [Bool.or_eq_true, Bool.and_eq_true, Bool.or_eq_false_iff, Bool.and_eq_false_iff, Bool.not_eq_true', Bool.not_eq_false', decide_eq_true_eq, decide_eq_false_iff_not, Bool.not_true, Bool.not_false] at hc14
        obtain rfl : k = xsa.length := by omega
        have hres := same_yes hc10 hq0_1
        refine wp_exit ?_
        refine hK5 _ _ ?_
        refine wp_seq_k fun khK13 hK13 => ?_
        refine wp_region_lit ?_
        refine l_at hF rfl rfl rfl (x_assign rfl) ?_; clear hF; intro a hF
        refine wpList_nil ?_
        refine hK13 _ _ ?_
        refine wp_ret ?_
        try simp only [Exit.then, Exit.inBlock]
        exact fin_ret hF (res1 hF rfl rfl) ⟨by rw [hres] <;> rfl, hH.mods⟩

set_option maxHeartbeats 1000000 in
theorem refEnc_calls (w0 : World) {ok : Nat → Prop} {A : Option Addr} {xs : List Fld} {c : Nat} (hr : Rd FE w0 ok A xs c) : Calls Try.prog 21 #[.slice A xs.length c] w0 fun e w' => ∃ v, e = .returned (.tuple #[v, .int .i64 (if (encR xs).isSome then 0 else 11)]) ∧ Mods (fun _ => False) w0 w' ∧ RowOut (.int .u8) 5 w0 w' v ((encR xs).getD []) := by
  refine calls_of_wp Try.func21 rfl ?_
  have hF := Fr.enter #[.slice A xs.length c] 63 (slotsOf [.slice A xs.length c] 0) (Nat.le_of_ble_eq_true rfl) (fun i v h => by have h2 := (get_slotsOf _ 0 i v h).2; simpa only [List.getElem?_toArray, Nat.sub_zero] using h2)
  have hH := Hp.nil (fun _ => False) w0
  rw [Try.ntmps21]
  revert hF; generalize (⟨(#[.slice A xs.length c] : Array Value) ++ Array.replicate (63 - (#[.slice A xs.length c] : Array Value).size) undef, []⟩ : Act) = a; intro hF
  have hH := hH.arg 901 hr.all (fun _ h => ⟨h, fun h => h⟩)
  have hle901 := hr.le; unfold maxLen at hle901
  refine wp_seq_k fun khK1 hK1 => ?_
  refine wp_region_lit ?_
  refine l_at hF rfl rfl rfl (x_assign rfl) ?_; clear hF; intro a hF
  refine l_at hF rfl rfl rfl (x_assign rfl) ?_; clear hF; intro a hF
  refine wpList_nil ?_
  refine hK1 _ _ ?_
  refine wp_seq_k fun khK2 hK2 => ?_
  refine wp_seq_k fun khK3 hK3 => ?_
  refine wp_region_lit ?_
  refine l_at hF rfl rfl rfl (x_move (hF.tmp 0 rfl)) ?_; clear hF; intro a hF
  refine l_at hF rfl rfl rfl (x_len_slice Try.underlying30 (hF.tmp 7 rfl)) ?_; clear hF; intro a hF
  refine l_at hF rfl rfl rfl (x_gtr (hF.tmp 8 rfl) rfl) ?_; clear hF; intro a hF
  refine wpList_nil ?_
  refine hK3 _ _ ?_
  refine wp_cond_split (hF.tmp 9 rfl) (fun hc9 => ?_) (fun hc9 => ?_)
  · try simp only [Bool.or_eq_true, Bool.and_eq_true, Bool.or_eq_false_iff, Bool.and_eq_false_iff, Bool.not_eq_true', Bool.not_eq_false', decide_eq_true_eq, decide_eq_false_iff_not, Bool.not_true, Bool.not_false] at hc9
    have hnone := encR_many hc9
    refine wp_seq_k fun khK4 hK4 => ?_
    refine wp_region_lit ?_
    refine l_at hF rfl rfl rfl (x_assign rfl) ?_; clear hF; intro a hF
    refine l_at hF rfl rfl rfl (x_assign rfl) ?_; clear hF; intro a hF
    refine wpList_nil ?_
    refine hK4 _ _ ?_
    refine wp_ret ?_
    try simp only [Exit.then, Exit.inBlock]
    exact fin_ret hF (res2 hF rfl rfl rfl) ⟨.slice none 0 0, by rw [hnone]; rfl, hH.mods, by rw [hnone]; exact RowOut.nil _ _ _ _⟩
  · try simp only [Bool.or_eq_true, Bool.and_eq_true, Bool.or_eq_false_iff, Bool.and_eq_false_iff, Bool.not_eq_true', Bool.not_eq_false', decide_eq_true_eq, decide_eq_false_iff_not, Bool.not_true, Bool.not_false] at hc9
    refine wp_skip ?_
    refine hK2 _ _ ?_
    refine wp_seq_k fun khK5 hK5 => ?_
    refine wp_region_lit ?_
    refine l_at hF rfl rfl rfl (x_assign rfl) ?_; clear hF; intro a hF
    have hH := hH.row0 4 (.int .u8) 5
    refine wpList_nil ?_
    refine hK5 _ _ ?_
    refine wp_seq_k fun khK6 hK6 => ?_
    refine wp_seq_k fun khK7 hK7 => ?_
    refine wp_region_lit ?_
    refine l_at hF rfl rfl rfl (x_assign rfl) ?_; clear hF; intro a hF
    refine wpList_nil ?_
    refine hK7 _ _ ?_
    refine wp_block ?_
    refine wp_loop_ghost (fun n_ a w => ∃ k : Nat, ∃ v4 : Value, n_ = xs.length - k ∧ (k ≤ xs.length) ∧ ((xs.take k).all okF = true) ∧ ((encI (xs.take k)).length ≤ 2003 * k) ∧ Fr 63 a [(0, .slice A xs.length c), (4, v4), (5, .int .i64 (k : Int))] ∧ Hp (fun _ => False) w0 w [(901, .rd_ FE A xs c (fun k => k < w0.heap.size)), (4, .row (.int .u8) 5 v4 (encI (xs.take k)) (fun _ => False))]) (xs.length) ?_ ?_
    · exact ⟨0, .slice none 0 0, rfl, by omega, rfl, by simp [encI], (((hF.bare.add hF 5 rfl).add hF 4 rfl).add hF 0 rfl), hH.sub _ (sub_cons (sub_cons (sub_nil _) 4 rfl) 901 rfl)⟩
    · rintro _ a w ⟨k, v4, rfl, hq0_0, hq0_1, hq0_2, hF, hH⟩
      refine wp_seq_k fun khK8 hK8 => ?_
      refine wp_seq_k fun khK9 hK9 => ?_
      refine wp_region_lit ?_
      refine l_at hF rfl rfl rfl (x_move (hF.tmp 5 rfl)) ?_; clear hF; intro a hF
      refine l_at hF rfl rfl rfl (x_move (hF.tmp 0 rfl)) ?_; clear hF; intro a hF
      refine l_at hF rfl rfl rfl (x_len_slice Try.underlying30 (hF.tmp 11 rfl)) ?_; clear hF; intro a hF
      refine l_at hF rfl rfl rfl (x_lss (hF.tmp 10 rfl) (hF.tmp 12 rfl)) ?_; clear hF; intro a hF
      refine wpList_nil ?_
      refine hK9 _ _ ?_
      refine wp_cond_split (hF.tmp 13 rfl) (fun hc13 => ?_) (fun hc13 => ?_)
      · try simp only [Bool.or_eq_true, Bool.and_eq_true, Bool.or_eq_false_iff, Bool.and_eq_false_iff, Bool.not_eq_true', Bool.not_eq_false', decide_eq_true_eq, decide_eq_false_iff_not, Bool.not_true, Bool.not_false] at hc13
        obtain ⟨fA1, fc1, hfr1, hf1_0, hf1_1, hfw1⟩ := Rd.fld ((hH.rd 901 rfl)) (gf_some (xs := xs) (i := (k : Int)) (by omega) (by omega))
        have hH := hH.subrd 901 rfl 1001 hfr1 (fun _ h => h)
        have hH := hH.subcel 901 rfl 1500 hf1_0 (Rd.inok ((hH.rd 901 rfl)) (by omega) _)
        have hH := hH.subcel 901 rfl 1501 hf1_1 (Rd.inok ((hH.rd 901 rfl)) (by omega) _)
        refine wp_skip ?_
        refine hK8 _ _ ?_
        refine wp_seq_k fun khK10 hK10 => ?_
        refine wp_block ?_
        refine wp_seq_k fun khK11 hK11 => ?_
        refine wp_region_lit ?_
        refine l_at hF rfl rfl rfl (x_move (hF.tmp 0 rfl)) ?_; clear hF; intro a hF
        refine l_at hF rfl rfl rfl (x_move (hF.tmp 5 rfl)) ?_; clear hF; intro a hF
        refine l_at hF rfl rfl rfl (x_iaddr_A Try.underlying30 ty36 ((hH.rd 901 rfl)) (hF.tmp 16 rfl) (hF.tmp 17 rfl) (by omega) (by omega) _) ?_; clear hF; intro a hF
        refine l_at hF rfl rfl rfl (x_faddrA ((hH.rd 901 rfl)) (by omega) _ Try.underlying36 rfl ty22 (by decide) (hF.tmp 18 rfl) rfl) ?_; clear hF; intro a hF
        refine l_at hF rfl rfl rfl (x_load1 ty22 (hF.tmp 19 rfl) (hH.holds 1501 _ rfl)) ?_; clear hF; intro a hF
        refine l_at hF rfl rfl rfl (x_len_slice Try.underlying22 (hF.tmp 20 rfl)) ?_; clear hF; intro a hF
        refine l_at hF rfl rfl rfl (x_assign (hF.tmp 21 rfl)) ?_; clear hF; intro a hF
        refine wpList_nil ?_
        refine hK11 _ _ ?_
        refine wp_seq_k fun khK12 hK12 => ?_
        refine wp_seq_k fun khK13 hK13 => ?_
        refine wp_region_lit ?_
        refine l_at hF rfl rfl rfl (x_move (hF.tmp 0 rfl)) ?_; clear hF; intro a hF
        refine l_at hF rfl rfl rfl (x_move (hF.tmp 5 rfl)) ?_; clear hF; intro a hF
        refine l_at hF rfl rfl rfl (x_iaddr_A Try.underlying30 ty36 ((hH.rd 901 rfl)) (hF.tmp 22 rfl) (hF.tmp 23 rfl) (by omega) (by omega) _) ?_; clear hF; intro a hF
        refine l_at hF rfl rfl rfl (x_faddrA ((hH.rd 901 rfl)) (by omega) _ Try.underlying36 rfl ty3 (by decide) (hF.tmp 24 rfl) rfl) ?_; clear hF; intro a hF
        refine l_at hF rfl rfl rfl (x_load1 ty3 (hF.tmp 25 rfl) (hH.holds 1500 _ rfl)) ?_; clear hF; intro a hF
        refine l_at hF rfl rfl rfl (x_lss (hF.tmp 26 rfl) rfl) ?_; clear hF; intro a hF
        refine l_at hF rfl rfl rfl (x_move (hF.tmp 27 rfl)) ?_; clear hF; intro a hF
        refine split_bool hF 28 rfl (fun hb28 => ?_) (fun hb28 => ?_)
        · have hc28 := hb28; try simp only [Bool.or_eq_true, Bool.and_eq_true, Bool.or_eq_false_iff, Bool.and_eq_false_iff, Bool.not_eq_true', Bool.not_eq_false', decide_eq_true_eq, decide_eq_false_iff_not, Bool.not_true, Bool.not_false] at hc28
          have hnone := encR_bad (by omega) (.inl hc28)
          refine l_offg hF ((wanted_of hF rfl rfl rfl rfl).trans (by rw [hb28]; rfl)) rfl rfl ?_; clear hF; intro a hF
          refine l_offg hF ((wanted_of hF rfl rfl rfl rfl).trans (by rw [hb28]; rfl)) rfl rfl ?_; clear hF; intro a hF
          refine l_offg hF ((wanted_of hF rfl rfl rfl rfl).trans (by rw [hb28]; rfl)) rfl rfl ?_; clear hF; intro a hF
          refine l_offg hF ((wanted_of hF rfl rfl rfl rfl).trans (by rw [hb28]; rfl)) rfl rfl ?_; clear hF; intro a hF
          refine l_offg hF ((wanted_of hF rfl rfl rfl rfl).trans (by rw [hb28]; rfl)) rfl rfl ?_; clear hF; intro a hF
          refine l_offg hF ((wanted_of hF rfl rfl rfl rfl).trans (by rw [hb28]; rfl)) rfl rfl ?_; clear hF; intro a hF
          refine l_at hF rfl rfl rfl (x_pickT (hF.tmp 28 rfl) hb28 rfl) ?_; clear hF; intro a hF
          refine l_at hF rfl rfl rfl (x_move (hF.tmp 35 rfl)) ?_; clear hF; intro a hF
          refine l_offg hF ((wanted_of hF rfl rfl rfl rfl).trans rfl) rfl rfl ?_; clear hF; intro a hF
          refine l_offg hF ((wanted_of hF rfl rfl rfl rfl).trans rfl) rfl rfl ?_; clear hF; intro a hF
          refine l_at hF rfl rfl rfl (x_pickT (hF.tmp 36 rfl) rfl rfl) ?_; clear hF; intro a hF
          refine wpList_nil ?_
          refine hK13 _ _ ?_
          refine wp_cond_true (hF.tmp 39 rfl) ?_
          refine wp_seq_k fun khK14 hK14 => ?_
          refine wp_region_lit ?_
          refine l_at hF rfl rfl rfl (x_assign rfl) ?_; clear hF; intro a hF
          refine l_at hF rfl rfl rfl (x_assign rfl) ?_; clear hF; intro a hF
          refine wpList_nil ?_
          refine hK14 _ _ ?_
          refine wp_ret ?_
          try simp only [Exit.then, Exit.inBlock]
          exact fin_ret hF (res2 hF rfl rfl rfl) ⟨.slice none 0 0, by rw [hnone]; rfl, hH.mods, by rw [hnone]; exact RowOut.nil _ _ _ _⟩
        · have hc28 := hb28; try simp only [Bool.or_eq_true, Bool.and_eq_true, Bool.or_eq_false_iff, Bool.and_eq_false_iff, Bool.not_eq_true', Bool.not_eq_false', decide_eq_true_eq, decide_eq_false_iff_not, Bool.not_true, Bool.not_false] at hc28
          refine l_atg hF ((wanted_of hF rfl rfl rfl rfl).trans (by rw [hb28]; rfl)) rfl rfl (x_move (hF.tmp 0 rfl)) ?_; clear hF; intro a hF
          refine l_atg hF ((wanted_of hF rfl rfl rfl rfl).trans (by rw [hb28]; rfl)) rfl rfl (x_move (hF.tmp 5 rfl)) ?_; clear hF; intro a hF
          refine l_atg hF ((wanted_of hF rfl rfl rfl rfl).trans (by rw [hb28]; rfl)) rfl rfl (x_iaddr_A Try.underlying30 ty36 ((hH.rd 901 rfl)) (hF.tmp 29 rfl) (hF.tmp 30 rfl) (by omega) (by omega) _) ?_; clear hF; intro a hF
          refine l_atg hF ((wanted_of hF rfl rfl rfl rfl).trans (by rw [hb28]; rfl)) rfl rfl (x_faddrA ((hH.rd 901 rfl)) (by omega) _ Try.underlying36 rfl ty3 (by decide) (hF.tmp 31 rfl) rfl) ?_; clear hF; intro a hF
          refine l_atg hF ((wanted_of hF rfl rfl rfl rfl).trans (by rw [hb28]; rfl)) rfl rfl (x_load1 ty3 (hF.tmp 32 rfl) (hH.holds 1500 _ rfl)) ?_; clear hF; intro a hF
          refine l_atg hF ((wanted_of hF rfl rfl rfl rfl).trans (by rw [hb28]; rfl)) rfl rfl (x_gtr (hF.tmp 33 rfl) rfl) ?_; clear hF; intro a hF
          refine l_at hF rfl rfl rfl (x_pickF (hF.tmp 28 rfl) hb28 (hF.tmp 34 rfl)) ?_; clear hF; intro a hF
          refine l_at hF rfl rfl rfl (x_move (hF.tmp 35 rfl)) ?_; clear hF; intro a hF
          refine split_bool hF 36 rfl (fun hb36 => ?_) (fun hb36 => ?_)
          · have hc36 := hb36; try simp only [Bool.or_eq_true, Bool.and_eq_true, Bool.or_eq_false_iff, Bool.and_eq_false_iff, Bool.not_eq_true', Bool.not_eq_false', decide_eq_true_eq, decide_eq_false_iff_not, Bool.not_true, Bool.not_false] at hc36
            have hnone := encR_bad (by omega) (.inr (.inl hc36))
            refine l_offg hF ((wanted_of hF rfl rfl rfl rfl).trans (by rw [hb36]; rfl)) rfl rfl ?_; clear hF; intro a hF
            refine l_offg hF ((wanted_of hF rfl rfl rfl rfl).trans (by rw [hb36]; rfl)) rfl rfl ?_; clear hF; intro a hF
            refine l_at hF rfl rfl rfl (x_pickT (hF.tmp 36 rfl) hb36 rfl) ?_; clear hF; intro a hF
            refine wpList_nil ?_
            refine hK13 _ _ ?_
            refine wp_cond_true (hF.tmp 39 rfl) ?_
            refine wp_seq_k fun khK15 hK15 => ?_
            refine wp_region_lit ?_
            refine l_at hF rfl rfl rfl (x_assign rfl) ?_; clear hF; intro a hF
            refine l_at hF rfl rfl rfl (x_assign rfl) ?_; clear hF; intro a hF
            refine wpList_nil ?_
            refine hK15 _ _ ?_
            refine wp_ret ?_
            try simp only [Exit.then, Exit.inBlock]
            exact fin_ret hF (res2 hF rfl rfl rfl) ⟨.slice none 0 0, by rw [hnone]; rfl, hH.mods, by rw [hnone]; exact RowOut.nil _ _ _ _⟩
          · have hc36 := hb36; try simp only [Bool.or_eq_true, Bool.and_eq_true, Bool.or_eq_false_iff, Bool.and_eq_false_iff, Bool.not_eq_true', Bool.not_eq_false', decide_eq_true_eq, decide_eq_false_iff_not, Bool.not_true, Bool.not_false] at hc36
            refine l_atg hF ((wanted_of hF rfl rfl rfl rfl).trans (by rw [hb36]; rfl)) rfl rfl (x_move (hF.tmp 6 rfl)) ?_; clear hF; intro a hF
            refine l_atg hF ((wanted_of hF rfl rfl rfl rfl).trans (by rw [hb36]; rfl)) rfl rfl (x_gtr (hF.tmp 37 rfl) rfl) ?_; clear hF; intro a hF
            refine l_at hF rfl rfl rfl (x_pickF (hF.tmp 36 rfl) hb36 (hF.tmp 38 rfl)) ?_; clear hF; intro a hF
            refine wpList_nil ?_
            refine hK13 _ _ ?_
            refine wp_cond_split (hF.tmp 39 rfl) (fun hc39 => ?_) (fun hc39 => ?_)
            · try simp only [Bool.or_eq_true, Bool.and_eq_true, Bool.or_eq_false_iff, Bool.and_eq_false_iff, Bool.not_eq_true', Bool.not_eq_false', decide_eq_true_eq, decide_eq_false_iff_not, Bool.not_true, Bool.not_false] at hc39
              have hnone := encR_bad (by omega) (.inr (.inr hc39))
              refine wp_seq_k fun khK16 hK16 => ?_
              refine wp_region_lit ?_
              refine l_at hF rfl rfl rfl (x_assign rfl) ?_; clear hF; intro a hF
              refine l_at hF rfl rfl rfl (x_assign rfl) ?_; clear hF; intro a hF
              refine wpList_nil ?_
              refine hK16 _ _ ?_
              refine wp_ret ?_
              try simp only [Exit.then, Exit.inBlock]
              exact fin_ret hF (res2 hF rfl rfl rfl) ⟨.slice none 0 0, by rw [hnone]; rfl, hH.mods, by rw [hnone]; exact RowOut.nil _ _ _ _⟩
            · try simp only [Bool.or_eq_true, Bool.and_eq_true, Bool.or_eq_false_iff, Bool.and_eq_false_iff, Bool.not_eq_true', Bool.not_eq_false', decide_eq_true_eq, decide_eq_false_iff_not, Bool.not_true, Bool.not_false] at hc39
              refine wp_skip ?_
              refine hK12 _ _ ?_
              refine wp_seq_k fun khK17 hK17 => ?_
              refine wp_region_lit ?_
              refine l_at hF rfl rfl rfl (x_move (hF.tmp 4 rfl)) ?_; clear hF; intro a hF
              refine l_at hF rfl rfl rfl (x_move (hF.tmp 0 rfl)) ?_; clear hF; intro a hF
              refine l_at hF rfl rfl rfl (x_move (hF.tmp 5 rfl)) ?_; clear hF; intro a hF
              refine l_at hF rfl rfl rfl (x_iaddr_A Try.underlying30 ty36 ((hH.rd 901 rfl)) (hF.tmp 41 rfl) (hF.tmp 42 rfl) (by omega) (by omega) _) ?_; clear hF; intro a hF
              refine l_at hF rfl rfl rfl (x_faddrA ((hH.rd 901 rfl)) (by omega) _ Try.underlying36 rfl ty3 (by decide) (hF.tmp 43 rfl) rfl) ?_; clear hF; intro a hF
              refine l_at hF rfl rfl rfl (x_load1 ty3 (hF.tmp 44 rfl) (hH.holds 1500 _ rfl)) ?_; clear hF; intro a hF
              refine l_at hF rfl rfl rfl (x_conv Try.underlying5 ⟨_, Try.underlying3⟩ (hF.tmp 45 rfl) (wu8 (by omega) (by omega))) ?_; clear hF; intro a hF
              refine l_at hF rfl rfl rfl (x_move (hF.tmp 6 rfl)) ?_; clear hF; intro a hF
              refine l_at hF rfl rfl rfl (x_quo (hF.tmp 47 rfl) rfl (by decide) (quo256i (by omega))) ?_; clear hF; intro a hF
              refine l_at hF rfl rfl rfl (x_conv Try.underlying5 ⟨_, Try.underlying3⟩ (hF.tmp 48 rfl) (wu8 (by omega) (by omega))) ?_; clear hF; intro a hF
              refine l_at hF rfl rfl rfl (x_move (hF.tmp 6 rfl)) ?_; clear hF; intro a hF
              refine l_at hF rfl rfl rfl (x_rem (hF.tmp 50 rfl) rfl (by decide) (rem256i _)) ?_; clear hF; intro a hF
              refine l_at hF rfl rfl rfl (x_conv Try.underlying5 ⟨_, Try.underlying3⟩ (hF.tmp 51 rfl) (wu8 (by omega) (by omega))) ?_; clear hF; intro a hF
              refine wpList_plain rfl fun K hK => ?_
              refine w_lit 53 (enc := Value.int .u8) (h1 := fun _ => rfl) ([(gf xs (k : Int)).1, ((gf xs (k : Int)).2.length : Int) / 256, ((gf xs (k : Int)).2.length : Int) % 256]) hF hH rfl Try.underlying22 ty5 (by simp only [List.map_toArray, List.map_cons, List.map_nil, hF.tmp 46 rfl, hF.tmp 49 rfl, hF.tmp 52 rfl]; rfl) rfl (by decide) (by decide) (by kernel_rfl) ?_
              clear hF hH; intro a w b53 hF hH
              refine hK _ _ ?_; clear hK K
              refine wpList_plain rfl fun K hK => ?_
              refine w_append 4 53 hF hH rfl Try.underlying22 ty5 rfl rfl rfl rfl (Row.rd (ok' := fun k_ => (fun _ => False) k_ ∨ (.slice (some ⟨b53, 0, none⟩) ([(gf xs (k : Int)).1, ((gf xs (k : Int)).2.length : Int) / 256, ((gf xs (k : Int)).2.length : Int) % 256]).length ([(gf xs (k : Int)).1, ((gf xs (k : Int)).2.length : Int) / 256, ((gf xs (k : Int)).2.length : Int) % 256]).length : Value).ownBlock = some k_) (hH.row 53 rfl) (fun _ hk_ _ => .inl hk_) (fun _ hk_ => .inr hk_)) (by rintro k_ (hk_ | hk_); exact .inr hk_; exact .inl hk_) (hF.tmp 40 rfl) (hF.tmp 53 rfl) (by simp only [List.length_cons, List.length_nil] at *; omega) (by simp only [List.length_cons, List.length_nil, maxLen] at *; omega) (fun _ => False) (fun w' v' h => row_flat h _) (fun k_ hk_ => hk_.elim) ?_
              clear hF hH; intro a w v54 hF hH
              refine hK _ _ ?_; clear hK K
              refine l_at hF rfl rfl rfl (x_assign (hF.tmp 54 rfl)) ?_; clear hF; intro a hF
              refine wpList_nil ?_
              refine hK17 _ _ ?_
              refine wp_region_lit ?_
              refine l_at hF rfl rfl rfl (x_move (hF.tmp 4 rfl)) ?_; clear hF; intro a hF
              refine l_at hF rfl rfl rfl (x_move (hF.tmp 0 rfl)) ?_; clear hF; intro a hF
              refine l_at hF rfl rfl rfl (x_move (hF.tmp 5 rfl)) ?_; clear hF; intro a hF
              refine l_at hF rfl rfl rfl (x_iaddr_A Try.underlying30 ty36 ((hH.rd 901 rfl)) (hF.tmp 56 rfl) (hF.tmp 57 rfl) (by omega) (by omega) _) ?_; clear hF; intro a hF
              refine l_at hF rfl rfl rfl (x_faddrA ((hH.rd 901 rfl)) (by omega) _ Try.underlying36 rfl ty22 (by decide) (hF.tmp 58 rfl) rfl) ?_; clear hF; intro a hF
              refine l_at hF rfl rfl rfl (x_load1 ty22 (hF.tmp 59 rfl) (hH.holds 1501 _ rfl)) ?_; clear hF; intro a hF
              refine wpList_plain rfl fun K hK => ?_
              refine w_append 4 1001 hF hH rfl Try.underlying22 ty5 rfl rfl rfl rfl ((hH.rd 1001 rfl)) (by intro k_ hk_; exact .inr hk_) (hF.tmp 55 rfl) (hF.tmp 60 rfl) (by simp only [List.length_append, List.length_cons, List.length_nil] at *; omega) (by simp only [List.length_append, List.length_cons, List.length_nil, maxLen] at *; omega) (fun _ => False) (fun w' v' h => row_flat h _) (fun k_ hk_ => hk_.elim) ?_
              clear hF hH; intro a w v61 hF hH
              refine hK _ _ ?_; clear hK K
              refine l_at hF rfl rfl rfl (x_assign (hF.tmp 61 rfl)) ?_; clear hF; intro a hF
              refine wpList_nil ?_
              refine hK10 _ _ ?_
              refine wp_region_lit ?_
              refine l_at hF rfl rfl rfl (x_move (hF.tmp 5 rfl)) ?_; clear hF; intro a hF
              refine l_at hF rfl rfl rfl (x_add (hF.tmp 14 rfl) rfl (w64 (by omega) (by omega))) ?_; clear hF; intro a hF
              refine l_at hF rfl rfl rfl (x_assign (hF.tmp 15 rfl)) ?_; clear hF; intro a hF
              refine wpList_nil ?_
              have hHs : Hp (fun _ => False) w0 w [(901, .rd_ FE A xs c (fun k => k < w0.heap.size)), (4, .row (.int .u8) 5 v61 ((encI (xs.take k) ++ [(gf xs (k : Int)).1, ((gf xs (k : Int)).2.length : Int) / 256, ((gf xs (k : Int)).2.length : Int) % 256]) ++ (gf xs (k : Int)).2) (fun _ => False))] := hH.sub _ (sub_cons (sub_cons (sub_nil _) 4 rfl) 901 rfl)
              rw [encI_step hc13] at hHs
              exact ⟨_, by omega, ⟨k + 1, v61, rfl, by omega, all_step hc13 hq0_1 hc28 hc36 hc39, len_step hc13 hq0_2 hc39, (((hF.bare.add hF 5 rfl).add hF 4 rfl).add hF 0 rfl), hHs⟩⟩
      · try simp only [Bool.or_eq_true, Bool.and_eq_true, Bool.or_eq_false_iff, Bool.and_eq_false_iff, Bool.not_eq_true', Bool.not_eq_false', decide_eq_true_eq, decide_eq_false_iff_not, Bool.not_true, Bool.not_false] at hc13
        obtain rfl : k = xs.length := by omega
        rw [List.take_length] at hq0_1
        have hsome := encR_all hc9 hq0_1
        refine wp_exit ?_
        refine hK6 _ _ ?_
        refine wp_seq_k fun khK18 hK18 => ?_
        refine wp_region_lit ?_
        refine l_at hF rfl rfl rfl (x_move (hF.tmp 4 rfl)) ?_; clear hF; intro a hF
        refine l_at hF rfl rfl rfl (x_assign (hF.tmp 62 rfl)) ?_; clear hF; intro a hF
        refine l_at hF rfl rfl rfl (x_assign rfl) ?_; clear hF; intro a hF
        refine wpList_nil ?_
        refine hK18 _ _ ?_
        refine wp_ret ?_
        try simp only [Exit.then, Exit.inBlock]
        rw [List.take_length] at hH
        exact fin_ret hF (res2 hF rfl rfl rfl) ⟨_, by rw [hsome]; rfl, hH.mods, by rw [hsome]; exact Hp.out hH 4 rfl⟩

end Go.Proofs.Ytjcpjkdadigkpaa.Cod
