/- The laws of action, walked. -/
import Derived.Test.YtlcnoibjhmflnaaDoorActB
set_option linter.unusedVariables false
set_option linter.unusedSimpArgs false
namespace Go.Proofs.YtlcnoibjhmflnaaDoor.Act
open Go.RowKit Go.Proofs.YtlcnoibjhmflnaaDoor.Sx Go.Proofs.YtlcnoibjhmflnaaDoor.Cod Go.Proofs.YtlcnoibjhmflnaaDoor.Num
set_option maxRecDepth 100000 in
set_option maxHeartbeats 1000000 in
theorem actEncodes_calls (w0 : World) (hL : LibAt w0) {ok1 ok2 : Nat → Prop} {A1 A2 : Option Addr} {xs : List StepD} {bs : List Int} {c1 c2 : Nat} (hr1 : Rd StE w0 ok1 A1 xs c1) (hr2 : Rd (.int .u8) w0 ok2 A2 bs c2) (hbs : ∀ s ∈ xs, StepB s) (hby : Byte bs) {n : Int} (hn : Fits n) : Calls Tryd.prog 4 #[.slice A1 xs.length c1, .slice A2 bs.length c2, .int .i64 n] w0 fun e w' => e = .returned (.bool true) ∧ Mods (fun _ => False) w0 w' := by
  refine calls_of_wp Tryd.func4 rfl ?_
  have hF := Fr.enter #[.slice A1 xs.length c1, .slice A2 bs.length c2, .int .i64 n] 123 (slotsOf [.slice A1 xs.length c1, .slice A2 bs.length c2, .int .i64 n] 0) (Nat.le_of_ble_eq_true rfl) (fun i v h => by have h2 := (get_slotsOf _ 0 i v h).2; simpa only [List.getElem?_toArray, Nat.sub_zero] using h2)
  have hH := Hp.nil (fun _ => False) w0
  rw [Tryd.ntmps4]
  revert hF; generalize (⟨(#[.slice A1 xs.length c1, .slice A2 bs.length c2, .int .i64 n] : Array Value) ++ Array.replicate (123 - (#[.slice A1 xs.length c1, .slice A2 bs.length c2, .int .i64 n] : Array Value).size) undef, []⟩ : Act) = a; intro hF
  have hH := hH.arg 901 hr1.all (fun _ h => ⟨h, fun h => h⟩)
  have hle901 := hr1.le; unfold maxLen at hle901
  have hH := hH.arg 902 hr2.all (fun _ h => ⟨h, fun h => h⟩)
  have hle902 := hr2.le; unfold maxLen at hle902
  have hH := hH.libN 990 hL
  refine wp_seq_k fun khK1 hK1 => ?_
  refine wp_region_lit ?_
  refine l_at hF rfl rfl rfl (x_assign rfl) ?_; clear hF; intro a hF
  refine wpList_nil ?_
  refine hK1 _ _ ?_
  refine wp_seq_k fun khK2 hK2 => ?_
  refine wp_region_lit ?_
  refine l_at hF rfl rfl rfl (x_move (hF.tmp 0 rfl)) ?_; clear hF; intro a hF
  refine wpList_plain rfl fun K hK => ?_
  refine w_call hF (x_enter Tryd.func12 (by kernel_rfl) rfl (by simp only [List.map_toArray, List.map_cons, List.map_nil, hF.tmp 22 rfl] <;> rfl)) (few_calls _ ((hH.rd 901 rfl))) rfl rfl ?_
  rintro _ w ⟨rfl, hm_⟩; refine ⟨_, rfl, ?_⟩; clear hF; intro a hF; have hH := hH.same hm_
  refine hK _ _ ?_; clear hK K
  refine l_at hF rfl rfl rfl (x_assign (hF.tmp 23 rfl)) ?_; clear hF; intro a hF
  refine wpList_nil ?_
  refine hK2 _ _ ?_
  refine wp_seq_k fun khK3 hK3 => ?_
  refine wp_seq_k fun khK4 hK4 => ?_
  refine wp_region_lit ?_
  refine l_at hF rfl rfl rfl (x_move (hF.tmp 7 rfl)) ?_; clear hF; intro a hF
  refine l_at hF rfl rfl rfl (x_not (hF.tmp 24 rfl)) ?_; clear hF; intro a hF
  refine l_at hF rfl rfl rfl (x_move (hF.tmp 25 rfl)) ?_; clear hF; intro a hF
  refine split_bool hF 26 rfl (fun hb26 => ?_) (fun hb26 => ?_)
  · have hc26 := hb26; try simp only [Bool.or_eq_true, Bool.and_eq_true, Bool.or_eq_false_iff, Bool.and_eq_false_iff, Bool.not_eq_true', Bool.not_eq_false', decide_eq_true_eq, decide_eq_false_iff_not, Bool.not_true, Bool.not_false] at hc26
    refine l_offg hF ((wanted_of hF rfl rfl rfl rfl).trans (by rw [hb26]; rfl)) rfl rfl ?_; clear hF; intro a hF
    refine l_offg hF ((wanted_of hF rfl rfl rfl rfl).trans (by rw [hb26]; rfl)) rfl rfl ?_; clear hF; intro a hF
    refine l_offg hF ((wanted_of hF rfl rfl rfl rfl).trans (by rw [hb26]; rfl)) rfl rfl ?_; clear hF; intro a hF
    refine l_at hF rfl rfl rfl (x_pickT (hF.tmp 26 rfl) hb26 rfl) ?_; clear hF; intro a hF
    refine wpList_nil ?_
    refine hK4 _ _ ?_
    refine wp_cond_true (hF.tmp 30 rfl) ?_
    refine wp_seq_k fun khK5 hK5 => ?_
    refine wp_region_lit ?_
    refine wpList_plain rfl fun K hK => ?_
    refine w_call hF (x_enter Tryd.func11 (by kernel_rfl) rfl (by simp only [List.map_toArray, List.map_cons, List.map_nil] <;> rfl)) (alive_calls _ (hH.holds 990 _ rfl)) rfl rfl ?_
    rintro _ w ⟨rfl, hm_⟩; refine ⟨_, rfl, ?_⟩; clear hF; intro a hF; have hH := hH.same hm_
    refine hK _ _ ?_; clear hK K
    refine l_at hF rfl rfl rfl (x_assign (hF.tmp 31 rfl)) ?_; clear hF; intro a hF
    refine wpList_nil ?_
    refine hK5 _ _ ?_
    refine wp_ret ?_
    try simp only [Exit.then, Exit.inBlock]
    exact fin_ret hF (res1 (v := .bool true) hF rfl rfl) ⟨rfl, hH.mods⟩
  · have hc26 := hb26; try simp only [Bool.or_eq_true, Bool.and_eq_true, Bool.or_eq_false_iff, Bool.and_eq_false_iff, Bool.not_eq_true', Bool.not_eq_false', decide_eq_true_eq, decide_eq_false_iff_not, Bool.not_true, Bool.not_false] at hc26
    have hfew : fewS xs = true := by simpa using hc26
    refine l_atg hF ((wanted_of hF rfl rfl rfl rfl).trans (by rw [hb26]; rfl)) rfl rfl (x_move (hF.tmp 1 rfl)) ?_; clear hF; intro a hF
    refine l_atg hF ((wanted_of hF rfl rfl rfl rfl).trans (by rw [hb26]; rfl)) rfl rfl (x_len_slice Tryd.underlying29 (hF.tmp 27 rfl)) ?_; clear hF; intro a hF
    refine l_atg hF ((wanted_of hF rfl rfl rfl rfl).trans (by rw [hb26]; rfl)) rfl rfl (x_gtr (hF.tmp 28 rfl) rfl) ?_; clear hF; intro a hF
    refine l_at hF rfl rfl rfl (x_pickF (hF.tmp 26 rfl) hb26 (hF.tmp 29 rfl)) ?_; clear hF; intro a hF
    refine wpList_nil ?_
    refine hK4 _ _ ?_
    refine wp_cond_split (hF.tmp 30 rfl) (fun hc30 => ?_) (fun hc30 => ?_)
    · have hk30_1 := hc30; try simp only [Bool.or_eq_true, Bool.and_eq_true, Bool.or_eq_false_iff, Bool.and_eq_false_iff, Bool.not_eq_true', Bool.not_eq_false', decide_eq_true_eq, decide_eq_false_iff_not, Bool.not_true, Bool.not_false] at hc30
      refine wp_seq_k fun khK6 hK6 => ?_
      refine wp_region_lit ?_
      refine wpList_plain rfl fun K hK => ?_
      refine w_call hF (x_enter Tryd.func11 (by kernel_rfl) rfl (by simp only [List.map_toArray, List.map_cons, List.map_nil] <;> rfl)) (alive_calls _ (hH.holds 990 _ rfl)) rfl rfl ?_
      rintro _ w ⟨rfl, hm_⟩; refine ⟨_, rfl, ?_⟩; clear hF; intro a hF; have hH := hH.same hm_
      refine hK _ _ ?_; clear hK K
      refine l_at hF rfl rfl rfl (x_assign (hF.tmp 31 rfl)) ?_; clear hF; intro a hF
      refine wpList_nil ?_
      refine hK6 _ _ ?_
      refine wp_ret ?_
      try simp only [Exit.then, Exit.inBlock]
      exact fin_ret hF (res1 (v := .bool true) hF rfl rfl) ⟨rfl, hH.mods⟩
    · have hk30_2 := hc30; try simp only [Bool.or_eq_true, Bool.and_eq_true, Bool.or_eq_false_iff, Bool.and_eq_false_iff, Bool.not_eq_true', Bool.not_eq_false', decide_eq_true_eq, decide_eq_false_iff_not, Bool.not_true, Bool.not_false] at hc30
      refine wp_skip ?_
      refine hK3 _ _ ?_
      refine wp_seq_k fun khK7 hK7 => ?_
      refine wp_region_lit ?_
      refine l_at hF rfl rfl rfl (x_move (hF.tmp 0 rfl)) ?_; clear hF; intro a hF
      refine wpList_plain rfl fun K hK => ?_
      refine w_call hF (x_enter Tryd.func13 (by kernel_rfl) rfl (by simp only [List.map_toArray, List.map_cons, List.map_nil, hF.tmp 33 rfl] <;> rfl)) (aenc_calls _ (hH.holds 990 _ rfl) ((hH.rd 901 rfl)) hbs) rfl rfl ?_
      rintro _ w ⟨vr34, rfl, hm_, hr_⟩; refine ⟨_, rfl, ?_⟩; clear hF; intro a hF; have hH := Hp.rowOut hH 34 hm_ hr_; obtain ⟨Ar34, cr34, rfl⟩ := (hH.row 34 rfl).form
      refine hK _ _ ?_; clear hK K
      refine l_at hF rfl rfl rfl (x_move (hF.tmp 34 rfl)) ?_; clear hF; intro a hF
      refine l_at hF rfl rfl rfl (x_extract (hF.tmp 32 rfl) rfl) ?_; clear hF; intro a hF
      refine l_at hF rfl rfl rfl (x_extract (hF.tmp 32 rfl) rfl) ?_; clear hF; intro a hF
      refine l_at hF rfl rfl rfl (x_assign (hF.tmp 35 rfl)) ?_; clear hF; intro a hF
      refine l_at hF rfl rfl rfl (x_assign (hF.tmp 36 rfl)) ?_; clear hF; intro a hF
      refine wpList_nil ?_
      refine hK7 _ _ ?_
      refine wp_seq_k fun khK8 hK8 => ?_
      refine wp_region_lit ?_
      refine l_at hF rfl rfl rfl (x_move (hF.tmp 0 rfl)) ?_; clear hF; intro a hF
      refine wpList_plain rfl fun K hK => ?_
      refine w_call hF (x_enter Tryd.func14 (by kernel_rfl) rfl (by simp only [List.map_toArray, List.map_cons, List.map_nil, hF.tmp 38 rfl] <;> rfl)) (raenc_calls _ ((hH.rd 901 rfl)) hbs) rfl rfl ?_
      rintro _ w ⟨vr39, rfl, hm_, hr_⟩; refine ⟨_, rfl, ?_⟩; clear hF; intro a hF; have hH := Hp.rowOut hH 39 hm_ hr_; obtain ⟨Ar39, cr39, rfl⟩ := (hH.row 39 rfl).form
      refine hK _ _ ?_; clear hK K
      refine l_at hF rfl rfl rfl (x_move (hF.tmp 39 rfl)) ?_; clear hF; intro a hF
      refine l_at hF rfl rfl rfl (x_extract (hF.tmp 37 rfl) rfl) ?_; clear hF; intro a hF
      refine l_at hF rfl rfl rfl (x_extract (hF.tmp 37 rfl) rfl) ?_; clear hF; intro a hF
      refine l_at hF rfl rfl rfl (x_assign (hF.tmp 40 rfl)) ?_; clear hF; intro a hF
      refine l_at hF rfl rfl rfl (x_assign (hF.tmp 41 rfl)) ?_; clear hF; intro a hF
      refine wpList_nil ?_
      refine hK8 _ _ ?_
      refine wp_seq_k fun khK9 hK9 => ?_
      refine wp_region_lit ?_
      refine l_at hF rfl rfl rfl (x_move (hF.tmp 1 rfl)) ?_; clear hF; intro a hF
      refine wpList_plain rfl fun K hK => ?_
      refine w_call hF (x_enter Tryd.func15 (by kernel_rfl) rfl (by simp only [List.map_toArray, List.map_cons, List.map_nil, hF.tmp 43 rfl] <;> rfl)) (adec_calls (bs := bs) _ (hH.holds 990 _ rfl) ((hH.rd 902 rfl)) hby) rfl rfl ?_
      rintro _ w ⟨vr44, rfl, hm_, hr_⟩; refine ⟨_, rfl, ?_⟩; clear hF; intro a hF; have hH := Hp.rowOut hH 44 hm_ hr_; obtain ⟨Ar44, cr44, rfl⟩ := (hH.row 44 rfl).form
      refine hK _ _ ?_; clear hK K
      refine l_at hF rfl rfl rfl (x_move (hF.tmp 44 rfl)) ?_; clear hF; intro a hF
      refine l_at hF rfl rfl rfl (x_extract (hF.tmp 42 rfl) rfl) ?_; clear hF; intro a hF
      refine l_at hF rfl rfl rfl (x_extract (hF.tmp 42 rfl) rfl) ?_; clear hF; intro a hF
      refine l_at hF rfl rfl rfl (x_assign (hF.tmp 45 rfl)) ?_; clear hF; intro a hF
      refine l_at hF rfl rfl rfl (x_assign (hF.tmp 46 rfl)) ?_; clear hF; intro a hF
      refine wpList_nil ?_
      refine hK9 _ _ ?_
      refine wp_seq_k fun khK10 hK10 => ?_
      refine wp_region_lit ?_
      refine l_at hF rfl rfl rfl (x_move (hF.tmp 1 rfl)) ?_; clear hF; intro a hF
      refine wpList_plain rfl fun K hK => ?_
      refine w_call hF (x_enter Tryd.func16 (by kernel_rfl) rfl (by simp only [List.map_toArray, List.map_cons, List.map_nil, hF.tmp 48 rfl] <;> rfl)) (radec_calls (bs := bs) _ ((hH.rd 902 rfl)) hby) rfl rfl ?_
      rintro _ w ⟨vr49, rfl, hm_, hr_⟩; refine ⟨_, rfl, ?_⟩; clear hF; intro a hF; have hH := Hp.rowOut hH 49 hm_ hr_; obtain ⟨Ar49, cr49, rfl⟩ := (hH.row 49 rfl).form
      refine hK _ _ ?_; clear hK K
      refine l_at hF rfl rfl rfl (x_move (hF.tmp 49 rfl)) ?_; clear hF; intro a hF
      refine l_at hF rfl rfl rfl (x_extract (hF.tmp 47 rfl) rfl) ?_; clear hF; intro a hF
      refine l_at hF rfl rfl rfl (x_extract (hF.tmp 47 rfl) rfl) ?_; clear hF; intro a hF
      refine l_at hF rfl rfl rfl (x_assign (hF.tmp 50 rfl)) ?_; clear hF; intro a hF
      refine l_at hF rfl rfl rfl (x_assign (hF.tmp 51 rfl)) ?_; clear hF; intro a hF
      refine wpList_nil ?_
      refine hK10 _ _ ?_
      refine wp_seq_k fun khK11 hK11 => ?_
      refine wp_region_lit ?_
      refine l_at hF rfl rfl rfl (x_move (hF.tmp 12 rfl)) ?_; clear hF; intro a hF
      refine l_at hF rfl rfl rfl (x_move (hF.tmp 14 rfl)) ?_; clear hF; intro a hF
      refine wpList_plain rfl fun K hK => ?_
      refine w_call hF (x_enter Tryd.func17 (by kernel_rfl) rfl (by simp only [List.map_toArray, List.map_cons, List.map_nil, hF.tmp 52 rfl, hF.tmp 53 rfl] <;> rfl)) (asame_calls _ (Row.rd (ok' := fun k_ => (fun _ => False) k_ ∨ (.slice Ar44 ((adecR bs).getD []).length cr44 : Value).ownBlock = some k_) (hH.row 44 rfl) (fun _ hk_ _ => .inl hk_) (fun _ hk_ => .inr hk_)) (Row.rd (ok' := fun k_ => (fun _ => False) k_ ∨ (.slice Ar49 ((adecR bs).getD []).length cr49 : Value).ownBlock = some k_) (hH.row 49 rfl) (fun _ hk_ _ => .inl hk_) (fun _ hk_ => .inr hk_)) (adec_bytes hby) (adec_bytes hby)) rfl rfl ?_
      rintro _ w ⟨rfl, hm_⟩; refine ⟨_, rfl, ?_⟩; clear hF; intro a hF; have hH := hH.same hm_
      refine hK _ _ ?_; clear hK K
      rw [sameS_refl] at hF
      refine l_at hF rfl rfl rfl (x_assign (hF.tmp 54 rfl)) ?_; clear hF; intro a hF
      refine wpList_nil ?_
      refine hK11 _ _ ?_
      refine wp_seq_k fun khK12 hK12 => ?_
      refine wp_seq_k fun khK13 hK13 => ?_
      refine wp_region_lit ?_
      refine l_at hF rfl rfl rfl (x_assign rfl) ?_; clear hF; intro a hF
      refine wpList_nil ?_
      refine hK13 _ _ ?_
      refine wp_block ?_
      refine wp_loop_ghost (fun n_ a w => ∃ k : Nat, n_ = xs.length - k ∧ (k ≤ xs.length) ∧ Fr 123 a [(0, .slice A1 xs.length c1), (2, .int .i64 n), (8, .slice Ar34 (encT xs).length cr34), (9, .int .i64 (encE xs)), (10, .slice Ar39 (encT xs).length cr39), (11, .int .i64 (encE xs)), (13, .int .i64 (if (adecR bs).isSome then 0 else 12)), (15, .int .i64 (if (adecR bs).isSome then 0 else 12)), (16, .bool true), (17, .int .i64 (k : Int))] ∧ Hp (fun _ => False) w0 w [(901, .rd_ StE A1 xs c1 (fun k => k < w0.heap.size)), (902, .rd_ (.int .u8) A2 bs c2 (fun k => k < w0.heap.size)), (990, .lib), (34, .row (.int .u8) 5 (.slice Ar34 (encT xs).length cr34) (encT xs) (fun _ => False)), (39, .row (.int .u8) 5 (.slice Ar39 (encT xs).length cr39) (encT xs) (fun _ => False)), (44, .row StE 38 (.slice Ar44 ((adecR bs).getD []).length cr44) ((adecR bs).getD []) (fun _ => False)), (49, .row StE 38 (.slice Ar49 ((adecR bs).getD []).length cr49) ((adecR bs).getD []) (fun _ => False))]) (xs.length) ?_ ?_
      · exact ⟨0, rfl, by omega, ((((((((((hF.bare.add hF 17 rfl).add hF 16 rfl).add hF 15 rfl).add hF 13 rfl).add hF 11 rfl).add hF 10 rfl).add hF 9 rfl).add hF 8 rfl).add hF 2 rfl).add hF 0 rfl), hH.sub _ (sub_cons (sub_cons (sub_cons (sub_cons (sub_cons (sub_cons (sub_cons (sub_nil _) 49 rfl) 44 rfl) 39 rfl) 34 rfl) 990 rfl) 902 rfl) 901 rfl)⟩
      · rintro _ a w ⟨k, rfl, hq0_0, hF, hH⟩
        refine wp_seq_k fun khK14 hK14 => ?_
        refine wp_seq_k fun khK15 hK15 => ?_
        refine wp_region_lit ?_
        refine l_at hF rfl rfl rfl (x_move (hF.tmp 17 rfl)) ?_; clear hF; intro a hF
        refine l_at hF rfl rfl rfl (x_move (hF.tmp 0 rfl)) ?_; clear hF; intro a hF
        refine l_at hF rfl rfl rfl (x_len_slice Tryd.underlying28 (hF.tmp 56 rfl)) ?_; clear hF; intro a hF
        refine l_at hF rfl rfl rfl (x_lss (hF.tmp 55 rfl) (hF.tmp 57 rfl)) ?_; clear hF; intro a hF
        refine wpList_nil ?_
        refine hK15 _ _ ?_
        refine wp_cond_split (hF.tmp 58 rfl) (fun hc58 => ?_) (fun hc58 => ?_)
        · have hk58_3 := hc58; try simp only [Bool.or_eq_true, Bool.and_eq_true, Bool.or_eq_false_iff, Bool.and_eq_false_iff, Bool.not_eq_true', Bool.not_eq_false', decide_eq_true_eq, decide_eq_false_iff_not, Bool.not_true, Bool.not_false] at hc58
          refine wp_skip ?_
          refine hK14 _ _ ?_
          refine wp_seq_k fun khK16 hK16 => ?_
          refine wp_block ?_
          refine wp_seq_k fun khK17 hK17 => ?_
          refine wp_region_lit ?_
          obtain ⟨hf1_0, hf1_1, hf1_2, hf1_3, hfw1⟩ := rd_st ((hH.rd 901 rfl)) (gst_some (xs := xs) (i := (k : Int)) (by omega) (by omega))
          have hH := hH.subcels 901 rfl 1499 hfw1 (Rd.inok ((hH.rd 901 rfl)) (by omega) _)
          have hH := hH.subcel 901 rfl 1500 hf1_0 (Rd.inok ((hH.rd 901 rfl)) (by omega) _)
          have hH := hH.subcel 901 rfl 1501 hf1_1 (Rd.inok ((hH.rd 901 rfl)) (by omega) _)
          have hH := hH.subcel 901 rfl 1502 hf1_2 (Rd.inok ((hH.rd 901 rfl)) (by omega) _)
          have hH := hH.subcel 901 rfl 1503 hf1_3 (Rd.inok ((hH.rd 901 rfl)) (by omega) _)
          have hmem := gst_mem (xs := xs) (j := k) (by omega)
          refine l_at hF rfl rfl rfl (x_move (hF.tmp 0 rfl)) ?_; clear hF; intro a hF
          refine l_at hF rfl rfl rfl (x_move (hF.tmp 17 rfl)) ?_; clear hF; intro a hF
          refine l_at hF rfl rfl rfl (x_iaddr_A Tryd.underlying28 ty38 ((hH.rd 901 rfl)) (hF.tmp 62 rfl) (hF.tmp 63 rfl) (by omega) (by omega) _) ?_; clear hF; intro a hF
          refine l_at hF rfl rfl rfl (x_faddrA ((hH.rd 901 rfl)) (by omega) _ Tryd.underlying38 rfl ty9 (by decide) (hF.tmp 64 rfl) rfl) ?_; clear hF; intro a hF
          refine l_at hF rfl rfl rfl (x_load1 ty9 (hF.tmp 65 rfl) (hH.holds 1502 _ rfl)) ?_; clear hF; intro a hF
          refine l_at hF rfl rfl rfl (x_move (hF.tmp 2 rfl)) ?_; clear hF; intro a hF
          refine wpList_plain rfl fun K hK => ?_
          refine w_call hF (x_enter Tryd.func10 (by kernel_rfl) rfl (by simp only [List.map_toArray, List.map_cons, List.map_nil, hF.tmp 66 rfl, hF.tmp 67 rfl] <;> rfl)) (sum_calls (xs := ((gst xs (k : Int)).2.2.1)) (n := n) _ (hH.holds 990 _ rfl) (by have := (fewS_at hfew hmem).2; omega) (hbs _ hmem).2.1 hn) rfl rfl ?_
          rintro _ w ⟨rfl, hm_⟩; refine ⟨_, rfl, ?_⟩; clear hF; intro a hF; have hH := hH.same hm_
          refine hK _ _ ?_; clear hK K
          refine l_at hF rfl rfl rfl (x_move (hF.tmp 68 rfl)) ?_; clear hF; intro a hF
          refine l_at hF rfl rfl rfl (x_extract (hF.tmp 61 rfl) rfl) ?_; clear hF; intro a hF
          refine l_at hF rfl rfl rfl (x_extract (hF.tmp 61 rfl) rfl) ?_; clear hF; intro a hF
          refine l_at hF rfl rfl rfl (x_assign (hF.tmp 69 rfl)) ?_; clear hF; intro a hF
          refine l_at hF rfl rfl rfl (x_assign (hF.tmp 70 rfl)) ?_; clear hF; intro a hF
          refine wpList_nil ?_
          refine hK17 _ _ ?_
          refine wp_seq_k fun khK18 hK18 => ?_
          refine wp_region_lit ?_
          refine l_at hF rfl rfl rfl (x_move (hF.tmp 0 rfl)) ?_; clear hF; intro a hF
          refine l_at hF rfl rfl rfl (x_move (hF.tmp 17 rfl)) ?_; clear hF; intro a hF
          refine l_at hF rfl rfl rfl (x_iaddr_A Tryd.underlying28 ty38 ((hH.rd 901 rfl)) (hF.tmp 72 rfl) (hF.tmp 73 rfl) (by omega) (by omega) _) ?_; clear hF; intro a hF
          refine l_at hF rfl rfl rfl (x_faddrA ((hH.rd 901 rfl)) (by omega) _ Tryd.underlying38 rfl ty9 (by decide) (hF.tmp 74 rfl) rfl) ?_; clear hF; intro a hF
          refine l_at hF rfl rfl rfl (x_load1 ty9 (hF.tmp 75 rfl) (hH.holds 1502 _ rfl)) ?_; clear hF; intro a hF
          refine l_at hF rfl rfl rfl (x_move (hF.tmp 2 rfl)) ?_; clear hF; intro a hF
          refine wpList_plain rfl fun K hK => ?_
          refine w_call hF (x_enter Tryd.func18 (by kernel_rfl) rfl (by simp only [List.map_toArray, List.map_cons, List.map_nil, hF.tmp 76 rfl, hF.tmp 77 rfl] <;> rfl)) (rsum_calls (xs := ((gst xs (k : Int)).2.2.1)) (n := n) _ (by have := (fewS_at hfew hmem).2; omega) (hbs _ hmem).2.1 hn) rfl rfl ?_
          rintro _ w ⟨rfl, hm_⟩; refine ⟨_, rfl, ?_⟩; clear hF; intro a hF; have hH := hH.same hm_
          refine hK _ _ ?_; clear hK K
          refine l_at hF rfl rfl rfl (x_move (hF.tmp 78 rfl)) ?_; clear hF; intro a hF
          refine l_at hF rfl rfl rfl (x_extract (hF.tmp 71 rfl) rfl) ?_; clear hF; intro a hF
          refine l_at hF rfl rfl rfl (x_extract (hF.tmp 71 rfl) rfl) ?_; clear hF; intro a hF
          refine l_at hF rfl rfl rfl (x_assign (hF.tmp 79 rfl)) ?_; clear hF; intro a hF
          refine l_at hF rfl rfl rfl (x_assign (hF.tmp 80 rfl)) ?_; clear hF; intro a hF
          refine wpList_nil ?_
          refine hK18 _ _ ?_
          refine wp_seq_k fun khK19 hK19 => ?_
          refine r_start [(901, .rd_ StE A1 xs c1 (fun k => k < w0.heap.size)), (902, .rd_ (.int .u8) A2 bs c2 (fun k => k < w0.heap.size)), (1499, .cels (adr A1 ((k : Int).toNat * 4)) #[.int .i64 (gst xs (k : Int)).1, .string (strOfNums (gst xs (k : Int)).2.1), .string (strOfNums (gst xs (k : Int)).2.2.1), .int .i64 (gst xs (k : Int)).2.2.2]), (1500, .cel (adr A1 ((k : Int).toNat * 4)) (.int .i64 (gst xs (k : Int)).1)), (1501, .cel (adr A1 ((k : Int).toNat * 4 + 1)) (.string (strOfNums (gst xs (k : Int)).2.1))), (1502, .cel (adr A1 ((k : Int).toNat * 4 + 2)) (.string (strOfNums (gst xs (k : Int)).2.2.1))), (1503, .cel (adr A1 ((k : Int).toNat * 4 + 3)) (.int .i64 (gst xs (k : Int)).2.2.2))] (by kernel_rfl) hH fun hH => ?_
          have hS : SL [(901, .rd_ StE A1 xs c1 (fun k => k < w0.heap.size)), (902, .rd_ (.int .u8) A2 bs c2 (fun k => k < w0.heap.size)), (1499, .cels (adr A1 ((k : Int).toNat * 4)) #[.int .i64 (gst xs (k : Int)).1, .string (strOfNums (gst xs (k : Int)).2.1), .string (strOfNums (gst xs (k : Int)).2.2.1), .int .i64 (gst xs (k : Int)).2.2.2]), (1500, .cel (adr A1 ((k : Int).toNat * 4)) (.int .i64 (gst xs (k : Int)).1)), (1501, .cel (adr A1 ((k : Int).toNat * 4 + 1)) (.string (strOfNums (gst xs (k : Int)).2.1))), (1502, .cel (adr A1 ((k : Int).toNat * 4 + 2)) (.string (strOfNums (gst xs (k : Int)).2.2.1))), (1503, .cel (adr A1 ((k : Int).toNat * 4 + 3)) (.int .i64 (gst xs (k : Int)).2.2.2))] _ := SL.of hH (sub_cons (sub_cons (sub_cons (sub_cons (sub_cons (sub_cons (sub_cons (sub_nil _) 1503 rfl) 1502 rfl) 1501 rfl) 1500 rfl) 1499 rfl) 902 rfl) 901 rfl)
          refine r_take 0 hF rfl rfl rfl (by kernel_rfl) (by kernel_rfl) (by kernel_rfl) (fun _ _ _ h => h) rfl hS (fun w hS => x_move (hF.tmp 18 rfl)) rfl ?_; clear hF; intro a hF
          refine r_take 1 hF rfl rfl rfl (by kernel_rfl) (by kernel_rfl) (by kernel_rfl) (fun _ _ _ h => h) rfl hS (fun w hS => x_move (hF.tmp 20 rfl)) rfl ?_; clear hF; intro a hF
          refine r_take 2 hF rfl rfl rfl (by kernel_rfl) (by kernel_rfl) (by kernel_rfl) (fun _ _ _ h => h) rfl hS (fun w hS => x_nen (xs := (sumI ((gst xs (k : Int)).2.2.1) n)) (ys := (sumI ((gst xs (k : Int)).2.2.1) n)) (hF.tmp 81 rfl) (hF.tmp 82 rfl) (sumI_byte _ _) (sumI_byte _ _)) rfl ?_; clear hF; intro a hF
          rw [decide_eq_true rfl, Bool.not_true] at hF
          refine r_take 3 hF rfl rfl rfl (by kernel_rfl) (by kernel_rfl) (by kernel_rfl) (fun _ _ _ h => h) rfl hS (fun w hS => x_move (hF.tmp 83 rfl)) rfl ?_; clear hF; intro a hF
          refine r_take 4 hF rfl rfl rfl (by kernel_rfl) (by kernel_rfl) (by kernel_rfl) (fun _ _ _ h => h) ((wanted_of hF rfl rfl rfl rfl).trans rfl) hS (fun w hS => x_move (hF.tmp 19 rfl)) rfl ?_; clear hF; intro a hF
          refine r_take 5 hF rfl rfl rfl (by kernel_rfl) (by kernel_rfl) (by kernel_rfl) (fun _ _ _ h => h) ((wanted_of hF rfl rfl rfl rfl).trans rfl) hS (fun w hS => x_move (hF.tmp 21 rfl)) rfl ?_; clear hF; intro a hF
          refine r_take 6 hF rfl rfl rfl (by kernel_rfl) (by kernel_rfl) (by kernel_rfl) (fun _ _ _ h => h) ((wanted_of hF rfl rfl rfl rfl).trans rfl) hS (fun w hS => x_neq (hF.tmp 85 rfl) (hF.tmp 86 rfl)) rfl ?_; clear hF; intro a hF
          rw [decide_eq_true rfl, Bool.not_true] at hF
          refine r_take 7 hF rfl rfl rfl (by kernel_rfl) (by kernel_rfl) (by kernel_rfl) (fun _ _ _ h => h) rfl hS (fun w hS => x_pickF (hF.tmp 84 rfl) rfl (hF.tmp 87 rfl)) rfl ?_; clear hF; intro a hF
          refine r_take 8 hF rfl rfl rfl (by kernel_rfl) (by kernel_rfl) (by kernel_rfl) (fun _ _ _ h => h) rfl hS (fun w hS => x_move (hF.tmp 88 rfl)) rfl ?_; clear hF; intro a hF
          refine r_take 9 hF rfl rfl rfl (by kernel_rfl) (by kernel_rfl) (by kernel_rfl) (fun _ _ _ h => h) ((wanted_of hF rfl rfl rfl rfl).trans rfl) hS (fun w hS => x_move (hF.tmp 0 rfl)) rfl ?_; clear hF; intro a hF
          refine r_take 10 hF rfl rfl rfl (by kernel_rfl) (by kernel_rfl) (by kernel_rfl) (fun _ _ _ h => h) ((wanted_of hF rfl rfl rfl rfl).trans rfl) hS (fun w hS => x_move (hF.tmp 17 rfl)) rfl ?_; clear hF; intro a hF
          refine r_take 11 hF rfl rfl rfl (by kernel_rfl) (by kernel_rfl) (by kernel_rfl) (fun _ _ _ h => h) ((wanted_of hF rfl rfl rfl rfl).trans rfl) hS (fun w hS => x_iaddr_A Tryd.underlying28 ty38 ((hH.rd 901 rfl)) (hF.tmp 90 rfl) (hF.tmp 91 rfl) (by omega) (by omega) _) rfl ?_; clear hF; intro a hF
          refine r_take 12 hF rfl rfl rfl (by kernel_rfl) (by kernel_rfl) (by kernel_rfl) (fun _ _ _ h => h) ((wanted_of hF rfl rfl rfl rfl).trans rfl) hS (fun w hS => x_loadn ty38 (hF.tmp 92 rfl) rfl (hS 1499 _ rfl)) rfl ?_; clear hF; intro a hF
          refine r_take 14 hF rfl rfl rfl (by kernel_rfl) (by kernel_rfl) (by kernel_rfl) (fun _ _ _ h => h) ((wanted_of hF rfl rfl rfl rfl).trans rfl) hS (fun w hS => x_move (hF.tmp 0 rfl)) rfl ?_; clear hF; intro a hF
          refine r_take 15 hF rfl rfl rfl (by kernel_rfl) (by kernel_rfl) (by kernel_rfl) (fun _ _ _ h => h) ((wanted_of hF rfl rfl rfl rfl).trans rfl) hS (fun w hS => x_move (hF.tmp 17 rfl)) rfl ?_; clear hF; intro a hF
          refine r_take 16 hF rfl rfl rfl (by kernel_rfl) (by kernel_rfl) (by kernel_rfl) (fun _ _ _ h => h) ((wanted_of hF rfl rfl rfl rfl).trans rfl) hS (fun w hS => x_iaddr_A Tryd.underlying28 ty38 ((hH.rd 901 rfl)) (hF.tmp 95 rfl) (hF.tmp 96 rfl) (by omega) (by omega) _) rfl ?_; clear hF; intro a hF
          refine r_take 17 hF rfl rfl rfl (by kernel_rfl) (by kernel_rfl) (by kernel_rfl) (fun _ _ _ h => h) ((wanted_of hF rfl rfl rfl rfl).trans rfl) hS (fun w hS => x_loadn ty38 (hF.tmp 97 rfl) rfl (hS 1499 _ rfl)) rfl ?_; clear hF; intro a hF
          refine r_do 13 rfl (by kernel_rfl) ((wanted_of hF rfl rfl rfl rfl).trans rfl) rfl ?_
          refine w_call hF (x_enter Tryd.func19 (by kernel_rfl) rfl (by simp only [List.map_toArray, List.map_cons, List.map_nil, hF.tmp 93 rfl] <;> rfl)) (right_calls _ (gst xs (k : Int))) rfl rfl ?_
          rintro _ w ⟨rfl, hm_⟩; refine ⟨_, rfl, ?_⟩; clear hF; intro a hF; have hH := hH.same hm_
          clear hS; have hS : SL _ _ := SL.of hH (sub_cons (sub_cons (sub_cons (sub_cons (sub_cons (sub_cons (sub_cons (sub_nil _) 1503 rfl) 1502 rfl) 1501 rfl) 1500 rfl) 1499 rfl) 902 rfl) 901 rfl); refine ⟨hS, ?_⟩
          refine r_do 18 rfl (by kernel_rfl) ((wanted_of hF rfl rfl rfl rfl).trans rfl) rfl ?_
          refine w_call hF (x_enter Tryd.func20 (by kernel_rfl) rfl (by simp only [List.map_toArray, List.map_cons, List.map_nil, hF.tmp 98 rfl] <;> rfl)) (rright_calls _ (gst xs (k : Int))) rfl rfl ?_
          rintro _ w ⟨rfl, hm_⟩; refine ⟨_, rfl, ?_⟩; clear hF; intro a hF; have hH := hH.same hm_
          clear hS; have hS : SL _ _ := SL.of hH (sub_cons (sub_cons (sub_cons (sub_cons (sub_cons (sub_cons (sub_cons (sub_nil _) 1503 rfl) 1502 rfl) 1501 rfl) 1500 rfl) 1499 rfl) 902 rfl) 901 rfl); refine ⟨hS, ?_⟩
          refine r_take 19 hF rfl rfl rfl (by kernel_rfl) (by kernel_rfl) (by kernel_rfl) (fun _ _ _ h => h) ((wanted_of hF rfl rfl rfl rfl).trans rfl) hS (fun w hS => x_neb (hF.tmp 94 rfl) (hF.tmp 99 rfl) Tryd.underlying4) rfl ?_; clear hF; intro a hF
          rw [beq_self_eq_true, Bool.not_true] at hF
          refine r_take 20 hF rfl rfl rfl (by kernel_rfl) (by kernel_rfl) (by kernel_rfl) (fun _ _ _ h => h) rfl hS (fun w hS => x_pickF (hF.tmp 89 rfl) rfl (hF.tmp 100 rfl)) rfl ?_; clear hF; intro a hF
          refine r_end (by kernel_rfl) ?_; clear hS
          refine hK19 _ _ ?_
          refine wp_cond_false (hF.tmp 101 rfl) ?_
          refine wp_skip ?_
          refine hK16 _ _ ?_
          refine wp_region_lit ?_
          refine l_at hF rfl rfl rfl (x_move (hF.tmp 17 rfl)) ?_; clear hF; intro a hF
          refine l_at hF rfl rfl rfl (x_add (hF.tmp 59 rfl) rfl (w64 (by omega) (by omega))) ?_; clear hF; intro a hF
          refine l_at hF rfl rfl rfl (x_assign (hF.tmp 60 rfl)) ?_; clear hF; intro a hF
          refine wpList_nil ?_
          exact ⟨_, by omega, ⟨k + 1, rfl, by omega, ((((((((((hF.bare.add hF 17 rfl).add hF 16 rfl).add hF 15 rfl).add hF 13 rfl).add hF 11 rfl).add hF 10 rfl).add hF 9 rfl).add hF 8 rfl).add hF 2 rfl).add hF 0 rfl), hH.sub _ (sub_cons (sub_cons (sub_cons (sub_cons (sub_cons (sub_cons (sub_cons (sub_nil _) 49 rfl) 44 rfl) 39 rfl) 34 rfl) 990 rfl) 902 rfl) 901 rfl)⟩⟩
        · have hk58_4 := hc58; try simp only [Bool.or_eq_true, Bool.and_eq_true, Bool.or_eq_false_iff, Bool.and_eq_false_iff, Bool.not_eq_true', Bool.not_eq_false', decide_eq_true_eq, decide_eq_false_iff_not, Bool.not_true, Bool.not_false] at hc58
          refine wp_exit ?_
          refine hK12 _ _ ?_
          refine wp_seq_k fun khK20 hK20 => ?_
          refine wp_region_lit ?_
          refine wpList_plain rfl fun K hK => ?_
          refine w_call hF (x_enter Tryd.func11 (by kernel_rfl) rfl (by simp only [List.map_toArray, List.map_cons, List.map_nil] <;> rfl)) (alive_calls _ (hH.holds 990 _ rfl)) rfl rfl ?_
          rintro _ w ⟨rfl, hm_⟩; refine ⟨_, rfl, ?_⟩; clear hF; intro a hF; have hH := hH.same hm_
          refine hK _ _ ?_; clear hK K
          refine l_at hF rfl rfl rfl (x_move (hF.tmp 102 rfl)) ?_; clear hF; intro a hF
          refine l_atg hF ((wanted_of hF rfl rfl rfl rfl).trans rfl) rfl rfl (x_move (hF.tmp 8 rfl)) ?_; clear hF; intro a hF
          refine l_atg hF ((wanted_of hF rfl rfl rfl rfl).trans rfl) rfl rfl (x_b2s Tryd.underlying29 Tryd.underlying5 Tryd.underlying9 (Row.rd (ok' := fun k_ => (fun _ => False) k_ ∨ (.slice Ar34 (encT xs).length cr34 : Value).ownBlock = some k_) (hH.row 34 rfl) (fun _ hk_ _ => .inl hk_) (fun _ hk_ => .inr hk_)) (hF.tmp 104 rfl)) ?_; clear hF; intro a hF
          refine l_atg hF ((wanted_of hF rfl rfl rfl rfl).trans rfl) rfl rfl (x_move (hF.tmp 10 rfl)) ?_; clear hF; intro a hF
          refine l_atg hF ((wanted_of hF rfl rfl rfl rfl).trans rfl) rfl rfl (x_b2s Tryd.underlying29 Tryd.underlying5 Tryd.underlying9 (Row.rd (ok' := fun k_ => (fun _ => False) k_ ∨ (.slice Ar39 (encT xs).length cr39 : Value).ownBlock = some k_) (hH.row 39 rfl) (fun _ hk_ _ => .inl hk_) (fun _ hk_ => .inr hk_)) (hF.tmp 106 rfl)) ?_; clear hF; intro a hF
          refine l_atg hF ((wanted_of hF rfl rfl rfl rfl).trans rfl) rfl rfl (x_eqn (xs := (encT xs)) (ys := (encT xs)) (hF.tmp 105 rfl) (hF.tmp 107 rfl) (encT_byte hbs) (encT_byte hbs)) ?_; clear hF; intro a hF
          rw [decide_eq_true rfl] at hF
          refine l_at hF rfl rfl rfl (x_pickT (hF.tmp 103 rfl) rfl (hF.tmp 108 rfl)) ?_; clear hF; intro a hF
          refine l_at hF rfl rfl rfl (x_move (hF.tmp 109 rfl)) ?_; clear hF; intro a hF
          refine l_atg hF ((wanted_of hF rfl rfl rfl rfl).trans rfl) rfl rfl (x_move (hF.tmp 9 rfl)) ?_; clear hF; intro a hF
          refine l_atg hF ((wanted_of hF rfl rfl rfl rfl).trans rfl) rfl rfl (x_move (hF.tmp 11 rfl)) ?_; clear hF; intro a hF
          refine l_atg hF ((wanted_of hF rfl rfl rfl rfl).trans rfl) rfl rfl (x_eql (hF.tmp 111 rfl) (hF.tmp 112 rfl)) ?_; clear hF; intro a hF
          rw [decide_eq_true rfl] at hF
          refine l_at hF rfl rfl rfl (x_pickT (hF.tmp 110 rfl) rfl (hF.tmp 113 rfl)) ?_; clear hF; intro a hF
          refine l_at hF rfl rfl rfl (x_move (hF.tmp 114 rfl)) ?_; clear hF; intro a hF
          refine l_atg hF ((wanted_of hF rfl rfl rfl rfl).trans rfl) rfl rfl (x_move (hF.tmp 16 rfl)) ?_; clear hF; intro a hF
          refine l_at hF rfl rfl rfl (x_pickT (hF.tmp 115 rfl) rfl (hF.tmp 116 rfl)) ?_; clear hF; intro a hF
          refine l_at hF rfl rfl rfl (x_move (hF.tmp 117 rfl)) ?_; clear hF; intro a hF
          refine l_atg hF ((wanted_of hF rfl rfl rfl rfl).trans rfl) rfl rfl (x_move (hF.tmp 13 rfl)) ?_; clear hF; intro a hF
          refine l_atg hF ((wanted_of hF rfl rfl rfl rfl).trans rfl) rfl rfl (x_move (hF.tmp 15 rfl)) ?_; clear hF; intro a hF
          refine l_atg hF ((wanted_of hF rfl rfl rfl rfl).trans rfl) rfl rfl (x_eql (hF.tmp 119 rfl) (hF.tmp 120 rfl)) ?_; clear hF; intro a hF
          rw [decide_eq_true rfl] at hF
          refine l_at hF rfl rfl rfl (x_pickT (hF.tmp 118 rfl) rfl (hF.tmp 121 rfl)) ?_; clear hF; intro a hF
          refine l_at hF rfl rfl rfl (x_assign (hF.tmp 122 rfl)) ?_; clear hF; intro a hF
          refine wpList_nil ?_
          refine hK20 _ _ ?_
          refine wp_ret ?_
          try simp only [Exit.then, Exit.inBlock]
          exact fin_ret hF (res1 (v := .bool true) hF rfl rfl) ⟨rfl, hH.mods⟩

set_option maxRecDepth 100000 in
set_option maxHeartbeats 1000000 in
theorem actBack_calls (w0 : World) (hL : LibAt w0) {ok1 ok2 : Nat → Prop} {A1 A2 : Option Addr} {xs : List StepD} {bs : List Int} {c1 c2 : Nat} (hr1 : Rd StE w0 ok1 A1 xs c1) (hr2 : Rd (.int .u8) w0 ok2 A2 bs c2) (hbs : ∀ s ∈ xs, StepB s) (hby : Byte bs) : Calls Tryd.prog 5 #[.slice A1 xs.length c1, .slice A2 bs.length c2] w0 fun e w' => e = .returned (.bool true) ∧ Mods (fun _ => False) w0 w' := by
  refine calls_of_wp Tryd.func5 rfl ?_
  have hF := Fr.enter #[.slice A1 xs.length c1, .slice A2 bs.length c2] 101 (slotsOf [.slice A1 xs.length c1, .slice A2 bs.length c2] 0) (Nat.le_of_ble_eq_true rfl) (fun i v h => by have h2 := (get_slotsOf _ 0 i v h).2; simpa only [List.getElem?_toArray, Nat.sub_zero] using h2)
  have hH := Hp.nil (fun _ => False) w0
  rw [Tryd.ntmps5]
  revert hF; generalize (⟨(#[.slice A1 xs.length c1, .slice A2 bs.length c2] : Array Value) ++ Array.replicate (101 - (#[.slice A1 xs.length c1, .slice A2 bs.length c2] : Array Value).size) undef, []⟩ : Act) = a; intro hF
  have hH := hH.arg 901 hr1.all (fun _ h => ⟨h, fun h => h⟩)
  have hle901 := hr1.le; unfold maxLen at hle901
  have hH := hH.arg 902 hr2.all (fun _ h => ⟨h, fun h => h⟩)
  have hle902 := hr2.le; unfold maxLen at hle902
  have hH := hH.libN 990 hL
  refine wp_seq_k fun khK1 hK1 => ?_
  refine wp_region_lit ?_
  refine l_at hF rfl rfl rfl (x_assign rfl) ?_; clear hF; intro a hF
  refine wpList_nil ?_
  refine hK1 _ _ ?_
  refine wp_seq_k fun khK2 hK2 => ?_
  refine wp_region_lit ?_
  refine l_at hF rfl rfl rfl (x_move (hF.tmp 0 rfl)) ?_; clear hF; intro a hF
  refine wpList_plain rfl fun K hK => ?_
  refine w_call hF (x_enter Tryd.func12 (by kernel_rfl) rfl (by simp only [List.map_toArray, List.map_cons, List.map_nil, hF.tmp 17 rfl] <;> rfl)) (few_calls _ ((hH.rd 901 rfl))) rfl rfl ?_
  rintro _ w ⟨rfl, hm_⟩; refine ⟨_, rfl, ?_⟩; clear hF; intro a hF; have hH := hH.same hm_
  refine hK _ _ ?_; clear hK K
  refine l_at hF rfl rfl rfl (x_assign (hF.tmp 18 rfl)) ?_; clear hF; intro a hF
  refine wpList_nil ?_
  refine hK2 _ _ ?_
  refine wp_seq_k fun khK3 hK3 => ?_
  refine wp_seq_k fun khK4 hK4 => ?_
  refine wp_region_lit ?_
  refine l_at hF rfl rfl rfl (x_move (hF.tmp 5 rfl)) ?_; clear hF; intro a hF
  refine l_at hF rfl rfl rfl (x_not (hF.tmp 19 rfl)) ?_; clear hF; intro a hF
  refine l_at hF rfl rfl rfl (x_move (hF.tmp 20 rfl)) ?_; clear hF; intro a hF
  refine split_bool hF 21 rfl (fun hb21 => ?_) (fun hb21 => ?_)
  · have hc21 := hb21; try simp only [Bool.or_eq_true, Bool.and_eq_true, Bool.or_eq_false_iff, Bool.and_eq_false_iff, Bool.not_eq_true', Bool.not_eq_false', decide_eq_true_eq, decide_eq_false_iff_not, Bool.not_true, Bool.not_false] at hc21
    refine l_offg hF ((wanted_of hF rfl rfl rfl rfl).trans (by rw [hb21]; rfl)) rfl rfl ?_; clear hF; intro a hF
    refine l_offg hF ((wanted_of hF rfl rfl rfl rfl).trans (by rw [hb21]; rfl)) rfl rfl ?_; clear hF; intro a hF
    refine l_offg hF ((wanted_of hF rfl rfl rfl rfl).trans (by rw [hb21]; rfl)) rfl rfl ?_; clear hF; intro a hF
    refine l_at hF rfl rfl rfl (x_pickT (hF.tmp 21 rfl) hb21 rfl) ?_; clear hF; intro a hF
    refine wpList_nil ?_
    refine hK4 _ _ ?_
    refine wp_cond_true (hF.tmp 25 rfl) ?_
    refine wp_seq_k fun khK5 hK5 => ?_
    refine wp_region_lit ?_
    refine wpList_plain rfl fun K hK => ?_
    refine w_call hF (x_enter Tryd.func11 (by kernel_rfl) rfl (by simp only [List.map_toArray, List.map_cons, List.map_nil] <;> rfl)) (alive_calls _ (hH.holds 990 _ rfl)) rfl rfl ?_
    rintro _ w ⟨rfl, hm_⟩; refine ⟨_, rfl, ?_⟩; clear hF; intro a hF; have hH := hH.same hm_
    refine hK _ _ ?_; clear hK K
    refine l_at hF rfl rfl rfl (x_assign (hF.tmp 26 rfl)) ?_; clear hF; intro a hF
    refine wpList_nil ?_
    refine hK5 _ _ ?_
    refine wp_ret ?_
    try simp only [Exit.then, Exit.inBlock]
    exact fin_ret hF (res1 (v := .bool true) hF rfl rfl) ⟨rfl, hH.mods⟩
  · have hc21 := hb21; try simp only [Bool.or_eq_true, Bool.and_eq_true, Bool.or_eq_false_iff, Bool.and_eq_false_iff, Bool.not_eq_true', Bool.not_eq_false', decide_eq_true_eq, decide_eq_false_iff_not, Bool.not_true, Bool.not_false] at hc21
    refine l_atg hF ((wanted_of hF rfl rfl rfl rfl).trans (by rw [hb21]; rfl)) rfl rfl (x_move (hF.tmp 1 rfl)) ?_; clear hF; intro a hF
    refine l_atg hF ((wanted_of hF rfl rfl rfl rfl).trans (by rw [hb21]; rfl)) rfl rfl (x_len_slice Tryd.underlying29 (hF.tmp 22 rfl)) ?_; clear hF; intro a hF
    refine l_atg hF ((wanted_of hF rfl rfl rfl rfl).trans (by rw [hb21]; rfl)) rfl rfl (x_gtr (hF.tmp 23 rfl) rfl) ?_; clear hF; intro a hF
    refine l_at hF rfl rfl rfl (x_pickF (hF.tmp 21 rfl) hb21 (hF.tmp 24 rfl)) ?_; clear hF; intro a hF
    refine wpList_nil ?_
    refine hK4 _ _ ?_
    refine wp_cond_split (hF.tmp 25 rfl) (fun hc25 => ?_) (fun hc25 => ?_)
    · have hk25_1 := hc25; try simp only [Bool.or_eq_true, Bool.and_eq_true, Bool.or_eq_false_iff, Bool.and_eq_false_iff, Bool.not_eq_true', Bool.not_eq_false', decide_eq_true_eq, decide_eq_false_iff_not, Bool.not_true, Bool.not_false] at hc25
      refine wp_seq_k fun khK6 hK6 => ?_
      refine wp_region_lit ?_
      refine wpList_plain rfl fun K hK => ?_
      refine w_call hF (x_enter Tryd.func11 (by kernel_rfl) rfl (by simp only [List.map_toArray, List.map_cons, List.map_nil] <;> rfl)) (alive_calls _ (hH.holds 990 _ rfl)) rfl rfl ?_
      rintro _ w ⟨rfl, hm_⟩; refine ⟨_, rfl, ?_⟩; clear hF; intro a hF; have hH := hH.same hm_
      refine hK _ _ ?_; clear hK K
      refine l_at hF rfl rfl rfl (x_assign (hF.tmp 26 rfl)) ?_; clear hF; intro a hF
      refine wpList_nil ?_
      refine hK6 _ _ ?_
      refine wp_ret ?_
      try simp only [Exit.then, Exit.inBlock]
      exact fin_ret hF (res1 (v := .bool true) hF rfl rfl) ⟨rfl, hH.mods⟩
    · have hk25_2 := hc25; try simp only [Bool.or_eq_true, Bool.and_eq_true, Bool.or_eq_false_iff, Bool.and_eq_false_iff, Bool.not_eq_true', Bool.not_eq_false', decide_eq_true_eq, decide_eq_false_iff_not, Bool.not_true, Bool.not_false] at hc25
      refine wp_skip ?_
      refine hK3 _ _ ?_
      refine wp_seq_k fun khK7 hK7 => ?_
      refine wp_region_lit ?_
      refine l_at hF rfl rfl rfl (x_move (hF.tmp 1 rfl)) ?_; clear hF; intro a hF
      refine wpList_plain rfl fun K hK => ?_
      refine w_call hF (x_enter Tryd.func15 (by kernel_rfl) rfl (by simp only [List.map_toArray, List.map_cons, List.map_nil, hF.tmp 28 rfl] <;> rfl)) (adec_calls (bs := bs) _ (hH.holds 990 _ rfl) ((hH.rd 902 rfl)) hby) rfl rfl ?_
      rintro _ w ⟨vr29, rfl, hm_, hr_⟩; refine ⟨_, rfl, ?_⟩; clear hF; intro a hF; have hH := Hp.rowOut hH 29 hm_ hr_; obtain ⟨Ar29, cr29, rfl⟩ := (hH.row 29 rfl).form
      refine hK _ _ ?_; clear hK K
      refine l_at hF rfl rfl rfl (x_move (hF.tmp 29 rfl)) ?_; clear hF; intro a hF
      refine l_at hF rfl rfl rfl (x_extract (hF.tmp 27 rfl) rfl) ?_; clear hF; intro a hF
      refine l_at hF rfl rfl rfl (x_extract (hF.tmp 27 rfl) rfl) ?_; clear hF; intro a hF
      refine l_at hF rfl rfl rfl (x_assign (hF.tmp 30 rfl)) ?_; clear hF; intro a hF
      refine l_at hF rfl rfl rfl (x_assign (hF.tmp 31 rfl)) ?_; clear hF; intro a hF
      refine wpList_nil ?_
      refine hK7 _ _ ?_
      refine wp_seq_k fun khK8 hK8 => ?_
      refine wp_seq_k fun khK9 hK9 => ?_
      refine wp_region_lit ?_
      refine l_at hF rfl rfl rfl (x_move (hF.tmp 7 rfl)) ?_; clear hF; intro a hF
      refine l_at hF rfl rfl rfl (x_eql (hF.tmp 32 rfl) rfl) ?_; clear hF; intro a hF
      refine wpList_nil ?_
      refine hK9 _ _ ?_
      refine wp_cond_split (hF.tmp 33 rfl) (fun hc33 => ?_) (fun hc33 => ?_)
      · have hk33_3 := hc33; try simp only [Bool.or_eq_true, Bool.and_eq_true, Bool.or_eq_false_iff, Bool.and_eq_false_iff, Bool.not_eq_true', Bool.not_eq_false', decide_eq_true_eq, decide_eq_false_iff_not, Bool.not_true, Bool.not_false] at hc33
        refine wp_seq_k fun khK10 hK10 => ?_
        refine wp_region_lit ?_
        obtain ⟨z, hz⟩ := adec_zero hc33
        have hbk := adec_back hby hz
        rw [hz, Option.getD_some] at hF hH
        refine l_at hF rfl rfl rfl (x_move (hF.tmp 6 rfl)) ?_; clear hF; intro a hF
        refine wpList_plain rfl fun K hK => ?_
        refine w_call hF (x_enter Tryd.func13 (by kernel_rfl) rfl (by simp only [List.map_toArray, List.map_cons, List.map_nil, hF.tmp 35 rfl] <;> rfl)) (aenc_calls _ (hH.holds 990 _ rfl) (Row.rd (ok' := fun k_ => (fun _ => False) k_ ∨ (.slice Ar29 z.length cr29 : Value).ownBlock = some k_) (hH.row 29 rfl) (fun _ hk_ _ => .inl hk_) (fun _ hk_ => .inr hk_)) hbk.2.2.1) rfl rfl ?_
        rintro _ w ⟨vr36, rfl, hm_, hr_⟩; refine ⟨_, rfl, ?_⟩; clear hF; intro a hF; have hH := Hp.rowOut hH 36 hm_ hr_; obtain ⟨Ar36, cr36, rfl⟩ := (hH.row 36 rfl).form
        refine hK _ _ ?_; clear hK K
        rw [hbk.1, hbk.2.1] at hF
        rw [hbk.2.1] at hH
        refine l_at hF rfl rfl rfl (x_move (hF.tmp 36 rfl)) ?_; clear hF; intro a hF
        refine l_at hF rfl rfl rfl (x_extract (hF.tmp 34 rfl) rfl) ?_; clear hF; intro a hF
        refine l_at hF rfl rfl rfl (x_extract (hF.tmp 34 rfl) rfl) ?_; clear hF; intro a hF
        refine l_at hF rfl rfl rfl (x_assign (hF.tmp 37 rfl)) ?_; clear hF; intro a hF
        refine l_at hF rfl rfl rfl (x_assign (hF.tmp 38 rfl)) ?_; clear hF; intro a hF
        refine wpList_nil ?_
        refine hK10 _ _ ?_
        refine wp_seq_k fun khK11 hK11 => ?_
        refine wp_region_lit ?_
        refine l_at hF rfl rfl rfl (x_move (hF.tmp 9 rfl)) ?_; clear hF; intro a hF
        refine l_at hF rfl rfl rfl (x_neq (hF.tmp 39 rfl) rfl) ?_; clear hF; intro a hF
        refine l_at hF rfl rfl rfl (x_move (hF.tmp 40 rfl)) ?_; clear hF; intro a hF
        refine l_atg hF ((wanted_of hF rfl rfl rfl rfl).trans rfl) rfl rfl (x_move (hF.tmp 8 rfl)) ?_; clear hF; intro a hF
        refine l_atg hF ((wanted_of hF rfl rfl rfl rfl).trans rfl) rfl rfl (x_b2s Tryd.underlying29 Tryd.underlying5 Tryd.underlying9 (Row.rd (ok' := fun k_ => (fun _ => False) k_ ∨ (.slice Ar36 bs.length cr36 : Value).ownBlock = some k_) (hH.row 36 rfl) (fun _ hk_ _ => .inl hk_) (fun _ hk_ => .inr hk_)) (hF.tmp 42 rfl)) ?_; clear hF; intro a hF
        refine l_atg hF ((wanted_of hF rfl rfl rfl rfl).trans rfl) rfl rfl (x_move (hF.tmp 1 rfl)) ?_; clear hF; intro a hF
        refine l_atg hF ((wanted_of hF rfl rfl rfl rfl).trans rfl) rfl rfl (x_b2s Tryd.underlying29 Tryd.underlying5 Tryd.underlying9 ((hH.rd 902 rfl)) (hF.tmp 44 rfl)) ?_; clear hF; intro a hF
        refine l_atg hF ((wanted_of hF rfl rfl rfl rfl).trans rfl) rfl rfl (x_nen (xs := bs) (ys := bs) (hF.tmp 43 rfl) (hF.tmp 45 rfl) hby hby) ?_; clear hF; intro a hF
        rw [decide_eq_true rfl, Bool.not_true] at hF
        refine l_at hF rfl rfl rfl (x_pickF (hF.tmp 41 rfl) rfl (hF.tmp 46 rfl)) ?_; clear hF; intro a hF
        refine wpList_nil ?_
        refine hK11 _ _ ?_
        refine wp_cond_false (hF.tmp 47 rfl) ?_
        refine wp_skip ?_
        refine hK8 _ _ ?_
        refine wp_seq_k fun khK12 hK12 => ?_
        refine wp_region_lit ?_
        refine l_at hF rfl rfl rfl (x_move (hF.tmp 0 rfl)) ?_; clear hF; intro a hF
        refine wpList_plain rfl fun K hK => ?_
        refine w_call hF (x_enter Tryd.func13 (by kernel_rfl) rfl (by simp only [List.map_toArray, List.map_cons, List.map_nil, hF.tmp 49 rfl] <;> rfl)) (aenc_calls _ (hH.holds 990 _ rfl) ((hH.rd 901 rfl)) hbs) rfl rfl ?_
        rintro _ w ⟨vr50, rfl, hm_, hr_⟩; refine ⟨_, rfl, ?_⟩; clear hF; intro a hF; have hH := Hp.rowOut hH 50 hm_ hr_; obtain ⟨Ar50, cr50, rfl⟩ := (hH.row 50 rfl).form
        refine hK _ _ ?_; clear hK K
        refine l_at hF rfl rfl rfl (x_move (hF.tmp 50 rfl)) ?_; clear hF; intro a hF
        refine l_at hF rfl rfl rfl (x_extract (hF.tmp 48 rfl) rfl) ?_; clear hF; intro a hF
        refine l_at hF rfl rfl rfl (x_extract (hF.tmp 48 rfl) rfl) ?_; clear hF; intro a hF
        refine l_at hF rfl rfl rfl (x_assign (hF.tmp 51 rfl)) ?_; clear hF; intro a hF
        refine l_at hF rfl rfl rfl (x_assign (hF.tmp 52 rfl)) ?_; clear hF; intro a hF
        refine wpList_nil ?_
        refine hK12 _ _ ?_
        refine wp_seq_k fun khK13 hK13 => ?_
        refine wp_seq_k fun khK14 hK14 => ?_
        refine wp_region_lit ?_
        refine l_at hF rfl rfl rfl (x_move (hF.tmp 11 rfl)) ?_; clear hF; intro a hF
        refine l_at hF rfl rfl rfl (x_neq (hF.tmp 53 rfl) rfl) ?_; clear hF; intro a hF
        refine wpList_nil ?_
        refine hK14 _ _ ?_
        refine wp_cond_split (hF.tmp 54 rfl) (fun hc54 => ?_) (fun hc54 => ?_)
        · have hk54_4 := hc54; try simp only [Bool.or_eq_true, Bool.and_eq_true, Bool.or_eq_false_iff, Bool.and_eq_false_iff, Bool.not_eq_true', Bool.not_eq_false', decide_eq_true_eq, decide_eq_false_iff_not, Bool.not_true, Bool.not_false] at hc54
          refine wp_seq_k fun khK15 hK15 => ?_
          refine wp_region_lit ?_
          refine wpList_plain rfl fun K hK => ?_
          refine w_call hF (x_enter Tryd.func11 (by kernel_rfl) rfl (by simp only [List.map_toArray, List.map_cons, List.map_nil] <;> rfl)) (alive_calls _ (hH.holds 990 _ rfl)) rfl rfl ?_
          rintro _ w ⟨rfl, hm_⟩; refine ⟨_, rfl, ?_⟩; clear hF; intro a hF; have hH := hH.same hm_
          refine hK _ _ ?_; clear hK K
          refine l_at hF rfl rfl rfl (x_move (hF.tmp 55 rfl)) ?_; clear hF; intro a hF
          refine l_atg hF ((wanted_of hF rfl rfl rfl rfl).trans rfl) rfl rfl (x_move (hF.tmp 11 rfl)) ?_; clear hF; intro a hF
          refine l_atg hF ((wanted_of hF rfl rfl rfl rfl).trans rfl) rfl rfl (x_eql (hF.tmp 57 rfl) rfl) ?_; clear hF; intro a hF
          refine l_atg hF ((wanted_of hF rfl rfl rfl rfl).trans rfl) rfl rfl (x_move (hF.tmp 0 rfl)) ?_; clear hF; intro a hF
          refine l_atg hF ((wanted_of hF rfl rfl rfl rfl).trans rfl) rfl rfl (x_len_slice Tryd.underlying28 (hF.tmp 59 rfl)) ?_; clear hF; intro a hF
          refine l_atg hF ((wanted_of hF rfl rfl rfl rfl).trans rfl) rfl rfl (x_gtr (hF.tmp 60 rfl) rfl) ?_; clear hF; intro a hF
          refine l_atg hF ((wanted_of hF rfl rfl rfl rfl).trans rfl) rfl rfl (x_eqb (hF.tmp 58 rfl) (hF.tmp 61 rfl) Tryd.underlying4) ?_; clear hF; intro a hF
          rw [back_err hc54] at hF
          refine l_at hF rfl rfl rfl (x_pickT (hF.tmp 56 rfl) rfl (hF.tmp 62 rfl)) ?_; clear hF; intro a hF
          refine l_at hF rfl rfl rfl (x_assign (hF.tmp 63 rfl)) ?_; clear hF; intro a hF
          refine wpList_nil ?_
          refine hK15 _ _ ?_
          refine wp_ret ?_
          try simp only [Exit.then, Exit.inBlock]
          exact fin_ret hF (res1 (v := .bool true) hF rfl rfl) ⟨rfl, hH.mods⟩
        · have hk54_5 := hc54; try simp only [Bool.or_eq_true, Bool.and_eq_true, Bool.or_eq_false_iff, Bool.and_eq_false_iff, Bool.not_eq_true', Bool.not_eq_false', decide_eq_true_eq, decide_eq_false_iff_not, Bool.not_true, Bool.not_false] at hc54
          refine wp_skip ?_
          refine hK13 _ _ ?_
          refine wp_seq_k fun khK16 hK16 => ?_
          refine wp_region_lit ?_
          refine l_at hF rfl rfl rfl (x_move (hF.tmp 10 rfl)) ?_; clear hF; intro a hF
          refine wpList_plain rfl fun K hK => ?_
          refine w_call hF (x_enter Tryd.func15 (by kernel_rfl) rfl (by simp only [List.map_toArray, List.map_cons, List.map_nil, hF.tmp 65 rfl] <;> rfl)) (adec_calls (bs := (encT xs)) _ (hH.holds 990 _ rfl) (Row.rd (ok' := fun k_ => (fun _ => False) k_ ∨ (.slice Ar50 (encT xs).length cr50 : Value).ownBlock = some k_) (hH.row 50 rfl) (fun _ hk_ _ => .inl hk_) (fun _ hk_ => .inr hk_)) (encT_byte hbs)) rfl rfl ?_
          rintro _ w ⟨vr66, rfl, hm_, hr_⟩; refine ⟨_, rfl, ?_⟩; clear hF; intro a hF; have hH := Hp.rowOut hH 66 hm_ hr_; obtain ⟨Ar66, cr66, rfl⟩ := (hH.row 66 rfl).form
          refine hK _ _ ?_; clear hK K
          rw [adec_enc hc54 hbs, Option.getD_some] at hF hH
          rw [show (if (some xs).isSome = true then (0 : Int) else 12) = 0 from rfl] at hF
          refine l_at hF rfl rfl rfl (x_move (hF.tmp 66 rfl)) ?_; clear hF; intro a hF
          refine l_at hF rfl rfl rfl (x_extract (hF.tmp 64 rfl) rfl) ?_; clear hF; intro a hF
          refine l_at hF rfl rfl rfl (x_extract (hF.tmp 64 rfl) rfl) ?_; clear hF; intro a hF
          refine l_at hF rfl rfl rfl (x_assign (hF.tmp 67 rfl)) ?_; clear hF; intro a hF
          refine l_at hF rfl rfl rfl (x_assign (hF.tmp 68 rfl)) ?_; clear hF; intro a hF
          refine wpList_nil ?_
          refine hK16 _ _ ?_
          refine wp_seq_k fun khK17 hK17 => ?_
          refine wp_region_lit ?_
          refine l_at hF rfl rfl rfl (x_move (hF.tmp 12 rfl)) ?_; clear hF; intro a hF
          refine l_at hF rfl rfl rfl (x_move (hF.tmp 0 rfl)) ?_; clear hF; intro a hF
          refine wpList_plain rfl fun K hK => ?_
          refine w_call hF (x_enter Tryd.func17 (by kernel_rfl) rfl (by simp only [List.map_toArray, List.map_cons, List.map_nil, hF.tmp 69 rfl, hF.tmp 70 rfl] <;> rfl)) (asame_calls _ (Row.rd (ok' := fun k_ => (fun _ => False) k_ ∨ (.slice Ar66 xs.length cr66 : Value).ownBlock = some k_) (hH.row 66 rfl) (fun _ hk_ _ => .inl hk_) (fun _ hk_ => .inr hk_)) ((hH.rd 901 rfl)) hbs hbs) rfl rfl ?_
          rintro _ w ⟨rfl, hm_⟩; refine ⟨_, rfl, ?_⟩; clear hF; intro a hF; have hH := hH.same hm_
          refine hK _ _ ?_; clear hK K
          rw [sameS_refl] at hF
          refine l_at hF rfl rfl rfl (x_assign (hF.tmp 71 rfl)) ?_; clear hF; intro a hF
          refine wpList_nil ?_
          refine hK17 _ _ ?_
          refine wp_seq_k fun khK18 hK18 => ?_
          refine wp_seq_k fun khK19 hK19 => ?_
          refine wp_region_lit ?_
          refine l_at hF rfl rfl rfl (x_move (hF.tmp 10 rfl)) ?_; clear hF; intro a hF
          refine l_at hF rfl rfl rfl (x_len_slice Tryd.underlying29 (hF.tmp 72 rfl)) ?_; clear hF; intro a hF
          refine l_at hF rfl rfl rfl (x_gtr (hF.tmp 73 rfl) rfl) ?_; clear hF; intro a hF
          refine wpList_nil ?_
          refine hK19 _ _ ?_
          refine wp_cond_split (hF.tmp 74 rfl) (fun hc74 => ?_) (fun hc74 => ?_)
          · have hk74_6 := hc74; try simp only [Bool.or_eq_true, Bool.and_eq_true, Bool.or_eq_false_iff, Bool.and_eq_false_iff, Bool.not_eq_true', Bool.not_eq_false', decide_eq_true_eq, decide_eq_false_iff_not, Bool.not_true, Bool.not_false] at hc74
            refine wp_seq_k fun khK20 hK20 => ?_
            refine wp_region_lit ?_
            refine l_at hF rfl rfl rfl (x_move (hF.tmp 10 rfl)) ?_; clear hF; intro a hF
            refine l_at hF rfl rfl rfl (x_move (hF.tmp 10 rfl)) ?_; clear hF; intro a hF
            refine l_at hF rfl rfl rfl (x_len_slice Tryd.underlying29 (hF.tmp 77 rfl)) ?_; clear hF; intro a hF
            refine l_at hF rfl rfl rfl (x_sub (hF.tmp 78 rfl) rfl (w64 (by have := encT_len hbs; omega) (by have := encT_len hbs; omega))) ?_; clear hF; intro a hF
            refine l_at hF rfl rfl rfl (x_slice_h Tryd.underlying29 ty5 (hF.tmp 76 rfl) (hF.tmp 79 rfl) (by omega) (by omega) (Row.rd (ok' := fun k_ => (fun _ => False) k_ ∨ (.slice Ar50 (encT xs).length cr50 : Value).ownBlock = some k_) (hH.row 50 rfl) (fun _ hk_ _ => .inl hk_) (fun _ hk_ => .inr hk_)).1) ?_; clear hF; intro a hF
            refine wpList_plain rfl fun K hK => ?_
            refine w_call hF (x_enter Tryd.func15 (by kernel_rfl) rfl (by simp only [List.map_toArray, List.map_cons, List.map_nil, hF.tmp 80 rfl] <;> rfl)) (adec_calls (bs := ((encT xs).take (((encT xs).length : Int) - 1).toNat)) _ (hH.holds 990 _ rfl) ((Rd.take (Row.rd (ok' := fun k_ => (fun _ => False) k_ ∨ (.slice Ar50 (encT xs).length cr50 : Value).ownBlock = some k_) (hH.row 50 rfl) (fun _ hk_ _ => .inl hk_) (fun _ hk_ => .inr hk_)) ((((encT xs).length : Int) - 1).toNat))) ((encT_byte hbs).take _)) rfl rfl ?_
            rintro _ w ⟨vr81, rfl, hm_, hr_⟩; refine ⟨_, rfl, ?_⟩; clear hF; intro a hF; have hH := Hp.rowOut hH 81 hm_ hr_; obtain ⟨Ar81, cr81, rfl⟩ := (hH.row 81 rfl).form
            refine hK _ _ ?_; clear hK K
            refine l_at hF rfl rfl rfl (x_move (hF.tmp 81 rfl)) ?_; clear hF; intro a hF
            refine l_at hF rfl rfl rfl (x_extract (hF.tmp 75 rfl) rfl) ?_; clear hF; intro a hF
            refine l_at hF rfl rfl rfl (x_extract (hF.tmp 75 rfl) rfl) ?_; clear hF; intro a hF
            refine l_at hF rfl rfl rfl (x_assign (hF.tmp 82 rfl)) ?_; clear hF; intro a hF
            refine l_at hF rfl rfl rfl (x_assign (hF.tmp 83 rfl)) ?_; clear hF; intro a hF
            refine wpList_nil ?_
            refine hK20 _ _ ?_
            refine wp_seq_k fun khK21 hK21 => ?_
            refine wp_region_lit ?_
            refine l_at hF rfl rfl rfl (x_move (hF.tmp 16 rfl)) ?_; clear hF; intro a hF
            refine l_at hF rfl rfl rfl (x_eql (hF.tmp 84 rfl) rfl) ?_; clear hF; intro a hF
            refine l_at hF rfl rfl rfl (x_move (hF.tmp 85 rfl)) ?_; clear hF; intro a hF
            refine split_bool hF 86 rfl (fun hb86 => ?_) (fun hb86 => ?_)
            · have hc86 := hb86; try simp only [Bool.or_eq_true, Bool.and_eq_true, Bool.or_eq_false_iff, Bool.and_eq_false_iff, Bool.not_eq_true', Bool.not_eq_false', decide_eq_true_eq, decide_eq_false_iff_not, Bool.not_true, Bool.not_false] at hc86
              obtain ⟨u, hu⟩ := adec_zero hc86
              have hlt : ¬ (xs.length : Int) ≤ (((adecR ((encT xs).take (((encT xs).length : Int) - 1).toNat)).getD []).length : Int) := by rw [hu]; exact adec_less hc54 hbs (by omega) hu
              refine l_atg hF ((wanted_of hF rfl rfl rfl rfl).trans (by rw [hb86]; rfl)) rfl rfl (x_move (hF.tmp 15 rfl)) ?_; clear hF; intro a hF
              refine l_atg hF ((wanted_of hF rfl rfl rfl rfl).trans (by rw [hb86]; rfl)) rfl rfl (x_len_slice Tryd.underlying28 (hF.tmp 87 rfl)) ?_; clear hF; intro a hF
              refine l_atg hF ((wanted_of hF rfl rfl rfl rfl).trans (by rw [hb86]; rfl)) rfl rfl (x_move (hF.tmp 0 rfl)) ?_; clear hF; intro a hF
              refine l_atg hF ((wanted_of hF rfl rfl rfl rfl).trans (by rw [hb86]; rfl)) rfl rfl (x_len_slice Tryd.underlying28 (hF.tmp 89 rfl)) ?_; clear hF; intro a hF
              refine l_atg hF ((wanted_of hF rfl rfl rfl rfl).trans (by rw [hb86]; rfl)) rfl rfl (x_geq (hF.tmp 88 rfl) (hF.tmp 90 rfl)) ?_; clear hF; intro a hF
              rw [decide_eq_false hlt] at hF
              refine l_at hF rfl rfl rfl (x_pickT (hF.tmp 86 rfl) hb86 (hF.tmp 91 rfl)) ?_; clear hF; intro a hF
              refine wpList_nil ?_
              refine hK21 _ _ ?_
              refine wp_cond_false (hF.tmp 92 rfl) ?_
              refine wp_skip ?_
              refine hK18 _ _ ?_
              refine wp_seq_k fun khK22 hK22 => ?_
              refine wp_region_lit ?_
              refine wpList_plain rfl fun K hK => ?_
              refine w_call hF (x_enter Tryd.func11 (by kernel_rfl) rfl (by simp only [List.map_toArray, List.map_cons, List.map_nil] <;> rfl)) (alive_calls _ (hH.holds 990 _ rfl)) rfl rfl ?_
              rintro _ w ⟨rfl, hm_⟩; refine ⟨_, rfl, ?_⟩; clear hF; intro a hF; have hH := hH.same hm_
              refine hK _ _ ?_; clear hK K
              refine l_at hF rfl rfl rfl (x_move (hF.tmp 93 rfl)) ?_; clear hF; intro a hF
              refine l_atg hF ((wanted_of hF rfl rfl rfl rfl).trans rfl) rfl rfl (x_move (hF.tmp 13 rfl)) ?_; clear hF; intro a hF
              refine l_atg hF ((wanted_of hF rfl rfl rfl rfl).trans rfl) rfl rfl (x_eql (hF.tmp 95 rfl) rfl) ?_; clear hF; intro a hF
              refine l_at hF rfl rfl rfl (x_pickT (hF.tmp 94 rfl) rfl (hF.tmp 96 rfl)) ?_; clear hF; intro a hF
              refine l_at hF rfl rfl rfl (x_move (hF.tmp 97 rfl)) ?_; clear hF; intro a hF
              refine l_atg hF ((wanted_of hF rfl rfl rfl rfl).trans rfl) rfl rfl (x_move (hF.tmp 14 rfl)) ?_; clear hF; intro a hF
              refine l_at hF rfl rfl rfl (x_pickT (hF.tmp 98 rfl) rfl (hF.tmp 99 rfl)) ?_; clear hF; intro a hF
              refine l_at hF rfl rfl rfl (x_assign (hF.tmp 100 rfl)) ?_; clear hF; intro a hF
              refine wpList_nil ?_
              refine hK22 _ _ ?_
              refine wp_ret ?_
              try simp only [Exit.then, Exit.inBlock]
              exact fin_ret hF (res1 (v := .bool true) hF rfl rfl) ⟨rfl, hH.mods⟩
            · have hc86 := hb86; try simp only [Bool.or_eq_true, Bool.and_eq_true, Bool.or_eq_false_iff, Bool.and_eq_false_iff, Bool.not_eq_true', Bool.not_eq_false', decide_eq_true_eq, decide_eq_false_iff_not, Bool.not_true, Bool.not_false] at hc86
              refine l_offg hF ((wanted_of hF rfl rfl rfl rfl).trans (by rw [hb86]; rfl)) rfl rfl ?_; clear hF; intro a hF
              refine l_offg hF ((wanted_of hF rfl rfl rfl rfl).trans (by rw [hb86]; rfl)) rfl rfl ?_; clear hF; intro a hF
              refine l_offg hF ((wanted_of hF rfl rfl rfl rfl).trans (by rw [hb86]; rfl)) rfl rfl ?_; clear hF; intro a hF
              refine l_offg hF ((wanted_of hF rfl rfl rfl rfl).trans (by rw [hb86]; rfl)) rfl rfl ?_; clear hF; intro a hF
              refine l_offg hF ((wanted_of hF rfl rfl rfl rfl).trans (by rw [hb86]; rfl)) rfl rfl ?_; clear hF; intro a hF
              refine l_at hF rfl rfl rfl (x_pickF (hF.tmp 86 rfl) hb86 rfl) ?_; clear hF; intro a hF
              refine wpList_nil ?_
              refine hK21 _ _ ?_
              refine wp_cond_false (hF.tmp 92 rfl) ?_
              refine wp_skip ?_
              refine hK18 _ _ ?_
              refine wp_seq_k fun khK23 hK23 => ?_
              refine wp_region_lit ?_
              refine wpList_plain rfl fun K hK => ?_
              refine w_call hF (x_enter Tryd.func11 (by kernel_rfl) rfl (by simp only [List.map_toArray, List.map_cons, List.map_nil] <;> rfl)) (alive_calls _ (hH.holds 990 _ rfl)) rfl rfl ?_
              rintro _ w ⟨rfl, hm_⟩; refine ⟨_, rfl, ?_⟩; clear hF; intro a hF; have hH := hH.same hm_
              refine hK _ _ ?_; clear hK K
              refine l_at hF rfl rfl rfl (x_move (hF.tmp 93 rfl)) ?_; clear hF; intro a hF
              refine l_atg hF ((wanted_of hF rfl rfl rfl rfl).trans rfl) rfl rfl (x_move (hF.tmp 13 rfl)) ?_; clear hF; intro a hF
              refine l_atg hF ((wanted_of hF rfl rfl rfl rfl).trans rfl) rfl rfl (x_eql (hF.tmp 95 rfl) rfl) ?_; clear hF; intro a hF
              refine l_at hF rfl rfl rfl (x_pickT (hF.tmp 94 rfl) rfl (hF.tmp 96 rfl)) ?_; clear hF; intro a hF
              refine l_at hF rfl rfl rfl (x_move (hF.tmp 97 rfl)) ?_; clear hF; intro a hF
              refine l_atg hF ((wanted_of hF rfl rfl rfl rfl).trans rfl) rfl rfl (x_move (hF.tmp 14 rfl)) ?_; clear hF; intro a hF
              refine l_at hF rfl rfl rfl (x_pickT (hF.tmp 98 rfl) rfl (hF.tmp 99 rfl)) ?_; clear hF; intro a hF
              refine l_at hF rfl rfl rfl (x_assign (hF.tmp 100 rfl)) ?_; clear hF; intro a hF
              refine wpList_nil ?_
              refine hK23 _ _ ?_
              refine wp_ret ?_
              try simp only [Exit.then, Exit.inBlock]
              exact fin_ret hF (res1 (v := .bool true) hF rfl rfl) ⟨rfl, hH.mods⟩
          · have hk74_7 := hc74; try simp only [Bool.or_eq_true, Bool.and_eq_true, Bool.or_eq_false_iff, Bool.and_eq_false_iff, Bool.not_eq_true', Bool.not_eq_false', decide_eq_true_eq, decide_eq_false_iff_not, Bool.not_true, Bool.not_false] at hc74
            refine wp_skip ?_
            refine hK18 _ _ ?_
            refine wp_seq_k fun khK24 hK24 => ?_
            refine wp_region_lit ?_
            refine wpList_plain rfl fun K hK => ?_
            refine w_call hF (x_enter Tryd.func11 (by kernel_rfl) rfl (by simp only [List.map_toArray, List.map_cons, List.map_nil] <;> rfl)) (alive_calls _ (hH.holds 990 _ rfl)) rfl rfl ?_
            rintro _ w ⟨rfl, hm_⟩; refine ⟨_, rfl, ?_⟩; clear hF; intro a hF; have hH := hH.same hm_
            refine hK _ _ ?_; clear hK K
            refine l_at hF rfl rfl rfl (x_move (hF.tmp 93 rfl)) ?_; clear hF; intro a hF
            refine l_atg hF ((wanted_of hF rfl rfl rfl rfl).trans rfl) rfl rfl (x_move (hF.tmp 13 rfl)) ?_; clear hF; intro a hF
            refine l_atg hF ((wanted_of hF rfl rfl rfl rfl).trans rfl) rfl rfl (x_eql (hF.tmp 95 rfl) rfl) ?_; clear hF; intro a hF
            refine l_at hF rfl rfl rfl (x_pickT (hF.tmp 94 rfl) rfl (hF.tmp 96 rfl)) ?_; clear hF; intro a hF
            refine l_at hF rfl rfl rfl (x_move (hF.tmp 97 rfl)) ?_; clear hF; intro a hF
            refine l_atg hF ((wanted_of hF rfl rfl rfl rfl).trans rfl) rfl rfl (x_move (hF.tmp 14 rfl)) ?_; clear hF; intro a hF
            refine l_at hF rfl rfl rfl (x_pickT (hF.tmp 98 rfl) rfl (hF.tmp 99 rfl)) ?_; clear hF; intro a hF
            refine l_at hF rfl rfl rfl (x_assign (hF.tmp 100 rfl)) ?_; clear hF; intro a hF
            refine wpList_nil ?_
            refine hK24 _ _ ?_
            refine wp_ret ?_
            try simp only [Exit.then, Exit.inBlock]
            exact fin_ret hF (res1 (v := .bool true) hF rfl rfl) ⟨rfl, hH.mods⟩
      · have hk33_8 := hc33; try simp only [Bool.or_eq_true, Bool.and_eq_true, Bool.or_eq_false_iff, Bool.and_eq_false_iff, Bool.not_eq_true', Bool.not_eq_false', decide_eq_true_eq, decide_eq_false_iff_not, Bool.not_true, Bool.not_false] at hc33
        refine wp_skip ?_
        refine hK8 _ _ ?_
        refine wp_seq_k fun khK25 hK25 => ?_
        refine wp_region_lit ?_
        refine l_at hF rfl rfl rfl (x_move (hF.tmp 0 rfl)) ?_; clear hF; intro a hF
        refine wpList_plain rfl fun K hK => ?_
        refine w_call hF (x_enter Tryd.func13 (by kernel_rfl) rfl (by simp only [List.map_toArray, List.map_cons, List.map_nil, hF.tmp 49 rfl] <;> rfl)) (aenc_calls _ (hH.holds 990 _ rfl) ((hH.rd 901 rfl)) hbs) rfl rfl ?_
        rintro _ w ⟨vr50, rfl, hm_, hr_⟩; refine ⟨_, rfl, ?_⟩; clear hF; intro a hF; have hH := Hp.rowOut hH 50 hm_ hr_; obtain ⟨Ar50, cr50, rfl⟩ := (hH.row 50 rfl).form
        refine hK _ _ ?_; clear hK K
        refine l_at hF rfl rfl rfl (x_move (hF.tmp 50 rfl)) ?_; clear hF; intro a hF
        refine l_at hF rfl rfl rfl (x_extract (hF.tmp 48 rfl) rfl) ?_; clear hF; intro a hF
        refine l_at hF rfl rfl rfl (x_extract (hF.tmp 48 rfl) rfl) ?_; clear hF; intro a hF
        refine l_at hF rfl rfl rfl (x_assign (hF.tmp 51 rfl)) ?_; clear hF; intro a hF
        refine l_at hF rfl rfl rfl (x_assign (hF.tmp 52 rfl)) ?_; clear hF; intro a hF
        refine wpList_nil ?_
        refine hK25 _ _ ?_
        refine wp_seq_k fun khK26 hK26 => ?_
        refine wp_seq_k fun khK27 hK27 => ?_
        refine wp_region_lit ?_
        refine l_at hF rfl rfl rfl (x_move (hF.tmp 11 rfl)) ?_; clear hF; intro a hF
        refine l_at hF rfl rfl rfl (x_neq (hF.tmp 53 rfl) rfl) ?_; clear hF; intro a hF
        refine wpList_nil ?_
        refine hK27 _ _ ?_
        refine wp_cond_split (hF.tmp 54 rfl) (fun hc54 => ?_) (fun hc54 => ?_)
        · have hk54_9 := hc54; try simp only [Bool.or_eq_true, Bool.and_eq_true, Bool.or_eq_false_iff, Bool.and_eq_false_iff, Bool.not_eq_true', Bool.not_eq_false', decide_eq_true_eq, decide_eq_false_iff_not, Bool.not_true, Bool.not_false] at hc54
          refine wp_seq_k fun khK28 hK28 => ?_
          refine wp_region_lit ?_
          refine wpList_plain rfl fun K hK => ?_
          refine w_call hF (x_enter Tryd.func11 (by kernel_rfl) rfl (by simp only [List.map_toArray, List.map_cons, List.map_nil] <;> rfl)) (alive_calls _ (hH.holds 990 _ rfl)) rfl rfl ?_
          rintro _ w ⟨rfl, hm_⟩; refine ⟨_, rfl, ?_⟩; clear hF; intro a hF; have hH := hH.same hm_
          refine hK _ _ ?_; clear hK K
          refine l_at hF rfl rfl rfl (x_move (hF.tmp 55 rfl)) ?_; clear hF; intro a hF
          refine l_atg hF ((wanted_of hF rfl rfl rfl rfl).trans rfl) rfl rfl (x_move (hF.tmp 11 rfl)) ?_; clear hF; intro a hF
          refine l_atg hF ((wanted_of hF rfl rfl rfl rfl).trans rfl) rfl rfl (x_eql (hF.tmp 57 rfl) rfl) ?_; clear hF; intro a hF
          refine l_atg hF ((wanted_of hF rfl rfl rfl rfl).trans rfl) rfl rfl (x_move (hF.tmp 0 rfl)) ?_; clear hF; intro a hF
          refine l_atg hF ((wanted_of hF rfl rfl rfl rfl).trans rfl) rfl rfl (x_len_slice Tryd.underlying28 (hF.tmp 59 rfl)) ?_; clear hF; intro a hF
          refine l_atg hF ((wanted_of hF rfl rfl rfl rfl).trans rfl) rfl rfl (x_gtr (hF.tmp 60 rfl) rfl) ?_; clear hF; intro a hF
          refine l_atg hF ((wanted_of hF rfl rfl rfl rfl).trans rfl) rfl rfl (x_eqb (hF.tmp 58 rfl) (hF.tmp 61 rfl) Tryd.underlying4) ?_; clear hF; intro a hF
          rw [back_err hc54] at hF
          refine l_at hF rfl rfl rfl (x_pickT (hF.tmp 56 rfl) rfl (hF.tmp 62 rfl)) ?_; clear hF; intro a hF
          refine l_at hF rfl rfl rfl (x_assign (hF.tmp 63 rfl)) ?_; clear hF; intro a hF
          refine wpList_nil ?_
          refine hK28 _ _ ?_
          refine wp_ret ?_
          try simp only [Exit.then, Exit.inBlock]
          exact fin_ret hF (res1 (v := .bool true) hF rfl rfl) ⟨rfl, hH.mods⟩
        · have hk54_10 := hc54; try simp only [Bool.or_eq_true, Bool.and_eq_true, Bool.or_eq_false_iff, Bool.and_eq_false_iff, Bool.not_eq_true', Bool.not_eq_false', decide_eq_true_eq, decide_eq_false_iff_not, Bool.not_true, Bool.not_false] at hc54
          refine wp_skip ?_
          refine hK26 _ _ ?_
          refine wp_seq_k fun khK29 hK29 => ?_
          refine wp_region_lit ?_
          refine l_at hF rfl rfl rfl (x_move (hF.tmp 10 rfl)) ?_; clear hF; intro a hF
          refine wpList_plain rfl fun K hK => ?_
          refine w_call hF (x_enter Tryd.func15 (by kernel_rfl) rfl (by simp only [List.map_toArray, List.map_cons, List.map_nil, hF.tmp 65 rfl] <;> rfl)) (adec_calls (bs := (encT xs)) _ (hH.holds 990 _ rfl) (Row.rd (ok' := fun k_ => (fun _ => False) k_ ∨ (.slice Ar50 (encT xs).length cr50 : Value).ownBlock = some k_) (hH.row 50 rfl) (fun _ hk_ _ => .inl hk_) (fun _ hk_ => .inr hk_)) (encT_byte hbs)) rfl rfl ?_
          rintro _ w ⟨vr66, rfl, hm_, hr_⟩; refine ⟨_, rfl, ?_⟩; clear hF; intro a hF; have hH := Hp.rowOut hH 66 hm_ hr_; obtain ⟨Ar66, cr66, rfl⟩ := (hH.row 66 rfl).form
          refine hK _ _ ?_; clear hK K
          rw [adec_enc hc54 hbs, Option.getD_some] at hF hH
          rw [show (if (some xs).isSome = true then (0 : Int) else 12) = 0 from rfl] at hF
          refine l_at hF rfl rfl rfl (x_move (hF.tmp 66 rfl)) ?_; clear hF; intro a hF
          refine l_at hF rfl rfl rfl (x_extract (hF.tmp 64 rfl) rfl) ?_; clear hF; intro a hF
          refine l_at hF rfl rfl rfl (x_extract (hF.tmp 64 rfl) rfl) ?_; clear hF; intro a hF
          refine l_at hF rfl rfl rfl (x_assign (hF.tmp 67 rfl)) ?_; clear hF; intro a hF
          refine l_at hF rfl rfl rfl (x_assign (hF.tmp 68 rfl)) ?_; clear hF; intro a hF
          refine wpList_nil ?_
          refine hK29 _ _ ?_
          refine wp_seq_k fun khK30 hK30 => ?_
          refine wp_region_lit ?_
          refine l_at hF rfl rfl rfl (x_move (hF.tmp 12 rfl)) ?_; clear hF; intro a hF
          refine l_at hF rfl rfl rfl (x_move (hF.tmp 0 rfl)) ?_; clear hF; intro a hF
          refine wpList_plain rfl fun K hK => ?_
          refine w_call hF (x_enter Tryd.func17 (by kernel_rfl) rfl (by simp only [List.map_toArray, List.map_cons, List.map_nil, hF.tmp 69 rfl, hF.tmp 70 rfl] <;> rfl)) (asame_calls _ (Row.rd (ok' := fun k_ => (fun _ => False) k_ ∨ (.slice Ar66 xs.length cr66 : Value).ownBlock = some k_) (hH.row 66 rfl) (fun _ hk_ _ => .inl hk_) (fun _ hk_ => .inr hk_)) ((hH.rd 901 rfl)) hbs hbs) rfl rfl ?_
          rintro _ w ⟨rfl, hm_⟩; refine ⟨_, rfl, ?_⟩; clear hF; intro a hF; have hH := hH.same hm_
          refine hK _ _ ?_; clear hK K
          rw [sameS_refl] at hF
          refine l_at hF rfl rfl rfl (x_assign (hF.tmp 71 rfl)) ?_; clear hF; intro a hF
          refine wpList_nil ?_
          refine hK30 _ _ ?_
          refine wp_seq_k fun khK31 hK31 => ?_
          refine wp_seq_k fun khK32 hK32 => ?_
          refine wp_region_lit ?_
          refine l_at hF rfl rfl rfl (x_move (hF.tmp 10 rfl)) ?_; clear hF; intro a hF
          refine l_at hF rfl rfl rfl (x_len_slice Tryd.underlying29 (hF.tmp 72 rfl)) ?_; clear hF; intro a hF
          refine l_at hF rfl rfl rfl (x_gtr (hF.tmp 73 rfl) rfl) ?_; clear hF; intro a hF
          refine wpList_nil ?_
          refine hK32 _ _ ?_
          refine wp_cond_split (hF.tmp 74 rfl) (fun hc74 => ?_) (fun hc74 => ?_)
          · have hk74_11 := hc74; try simp only [Bool.or_eq_true, Bool.and_eq_true, Bool.or_eq_false_iff, Bool.and_eq_false_iff, Bool.not_eq_true', Bool.not_eq_false', decide_eq_true_eq, decide_eq_false_iff_not, Bool.not_true, Bool.not_false] at hc74
            refine wp_seq_k fun khK33 hK33 => ?_
            refine wp_region_lit ?_
            refine l_at hF rfl rfl rfl (x_move (hF.tmp 10 rfl)) ?_; clear hF; intro a hF
            refine l_at hF rfl rfl rfl (x_move (hF.tmp 10 rfl)) ?_; clear hF; intro a hF
            refine l_at hF rfl rfl rfl (x_len_slice Tryd.underlying29 (hF.tmp 77 rfl)) ?_; clear hF; intro a hF
            refine l_at hF rfl rfl rfl (x_sub (hF.tmp 78 rfl) rfl (w64 (by have := encT_len hbs; omega) (by have := encT_len hbs; omega))) ?_; clear hF; intro a hF
            refine l_at hF rfl rfl rfl (x_slice_h Tryd.underlying29 ty5 (hF.tmp 76 rfl) (hF.tmp 79 rfl) (by omega) (by omega) (Row.rd (ok' := fun k_ => (fun _ => False) k_ ∨ (.slice Ar50 (encT xs).length cr50 : Value).ownBlock = some k_) (hH.row 50 rfl) (fun _ hk_ _ => .inl hk_) (fun _ hk_ => .inr hk_)).1) ?_; clear hF; intro a hF
            refine wpList_plain rfl fun K hK => ?_
            refine w_call hF (x_enter Tryd.func15 (by kernel_rfl) rfl (by simp only [List.map_toArray, List.map_cons, List.map_nil, hF.tmp 80 rfl] <;> rfl)) (adec_calls (bs := ((encT xs).take (((encT xs).length : Int) - 1).toNat)) _ (hH.holds 990 _ rfl) ((Rd.take (Row.rd (ok' := fun k_ => (fun _ => False) k_ ∨ (.slice Ar50 (encT xs).length cr50 : Value).ownBlock = some k_) (hH.row 50 rfl) (fun _ hk_ _ => .inl hk_) (fun _ hk_ => .inr hk_)) ((((encT xs).length : Int) - 1).toNat))) ((encT_byte hbs).take _)) rfl rfl ?_
            rintro _ w ⟨vr81, rfl, hm_, hr_⟩; refine ⟨_, rfl, ?_⟩; clear hF; intro a hF; have hH := Hp.rowOut hH 81 hm_ hr_; obtain ⟨Ar81, cr81, rfl⟩ := (hH.row 81 rfl).form
            refine hK _ _ ?_; clear hK K
            refine l_at hF rfl rfl rfl (x_move (hF.tmp 81 rfl)) ?_; clear hF; intro a hF
            refine l_at hF rfl rfl rfl (x_extract (hF.tmp 75 rfl) rfl) ?_; clear hF; intro a hF
            refine l_at hF rfl rfl rfl (x_extract (hF.tmp 75 rfl) rfl) ?_; clear hF; intro a hF
            refine l_at hF rfl rfl rfl (x_assign (hF.tmp 82 rfl)) ?_; clear hF; intro a hF
            refine l_at hF rfl rfl rfl (x_assign (hF.tmp 83 rfl)) ?_; clear hF; intro a hF
            refine wpList_nil ?_
            refine hK33 _ _ ?_
            refine wp_seq_k fun khK34 hK34 => ?_
            refine wp_region_lit ?_
            refine l_at hF rfl rfl rfl (x_move (hF.tmp 16 rfl)) ?_; clear hF; intro a hF
            refine l_at hF rfl rfl rfl (x_eql (hF.tmp 84 rfl) rfl) ?_; clear hF; intro a hF
            refine l_at hF rfl rfl rfl (x_move (hF.tmp 85 rfl)) ?_; clear hF; intro a hF
            refine split_bool hF 86 rfl (fun hb86 => ?_) (fun hb86 => ?_)
            · have hc86 := hb86; try simp only [Bool.or_eq_true, Bool.and_eq_true, Bool.or_eq_false_iff, Bool.and_eq_false_iff, Bool.not_eq_true', Bool.not_eq_false', decide_eq_true_eq, decide_eq_false_iff_not, Bool.not_true, Bool.not_false] at hc86
              obtain ⟨u, hu⟩ := adec_zero hc86
              have hlt : ¬ (xs.length : Int) ≤ (((adecR ((encT xs).take (((encT xs).length : Int) - 1).toNat)).getD []).length : Int) := by rw [hu]; exact adec_less hc54 hbs (by omega) hu
              refine l_atg hF ((wanted_of hF rfl rfl rfl rfl).trans (by rw [hb86]; rfl)) rfl rfl (x_move (hF.tmp 15 rfl)) ?_; clear hF; intro a hF
              refine l_atg hF ((wanted_of hF rfl rfl rfl rfl).trans (by rw [hb86]; rfl)) rfl rfl (x_len_slice Tryd.underlying28 (hF.tmp 87 rfl)) ?_; clear hF; intro a hF
              refine l_atg hF ((wanted_of hF rfl rfl rfl rfl).trans (by rw [hb86]; rfl)) rfl rfl (x_move (hF.tmp 0 rfl)) ?_; clear hF; intro a hF
              refine l_atg hF ((wanted_of hF rfl rfl rfl rfl).trans (by rw [hb86]; rfl)) rfl rfl (x_len_slice Tryd.underlying28 (hF.tmp 89 rfl)) ?_; clear hF; intro a hF
              refine l_atg hF ((wanted_of hF rfl rfl rfl rfl).trans (by rw [hb86]; rfl)) rfl rfl (x_geq (hF.tmp 88 rfl) (hF.tmp 90 rfl)) ?_; clear hF; intro a hF
              rw [decide_eq_false hlt] at hF
              refine l_at hF rfl rfl rfl (x_pickT (hF.tmp 86 rfl) hb86 (hF.tmp 91 rfl)) ?_; clear hF; intro a hF
              refine wpList_nil ?_
              refine hK34 _ _ ?_
              refine wp_cond_false (hF.tmp 92 rfl) ?_
              refine wp_skip ?_
              refine hK31 _ _ ?_
              refine wp_seq_k fun khK35 hK35 => ?_
              refine wp_region_lit ?_
              refine wpList_plain rfl fun K hK => ?_
              refine w_call hF (x_enter Tryd.func11 (by kernel_rfl) rfl (by simp only [List.map_toArray, List.map_cons, List.map_nil] <;> rfl)) (alive_calls _ (hH.holds 990 _ rfl)) rfl rfl ?_
              rintro _ w ⟨rfl, hm_⟩; refine ⟨_, rfl, ?_⟩; clear hF; intro a hF; have hH := hH.same hm_
              refine hK _ _ ?_; clear hK K
              refine l_at hF rfl rfl rfl (x_move (hF.tmp 93 rfl)) ?_; clear hF; intro a hF
              refine l_atg hF ((wanted_of hF rfl rfl rfl rfl).trans rfl) rfl rfl (x_move (hF.tmp 13 rfl)) ?_; clear hF; intro a hF
              refine l_atg hF ((wanted_of hF rfl rfl rfl rfl).trans rfl) rfl rfl (x_eql (hF.tmp 95 rfl) rfl) ?_; clear hF; intro a hF
              refine l_at hF rfl rfl rfl (x_pickT (hF.tmp 94 rfl) rfl (hF.tmp 96 rfl)) ?_; clear hF; intro a hF
              refine l_at hF rfl rfl rfl (x_move (hF.tmp 97 rfl)) ?_; clear hF; intro a hF
              refine l_atg hF ((wanted_of hF rfl rfl rfl rfl).trans rfl) rfl rfl (x_move (hF.tmp 14 rfl)) ?_; clear hF; intro a hF
              refine l_at hF rfl rfl rfl (x_pickT (hF.tmp 98 rfl) rfl (hF.tmp 99 rfl)) ?_; clear hF; intro a hF
              refine l_at hF rfl rfl rfl (x_assign (hF.tmp 100 rfl)) ?_; clear hF; intro a hF
              refine wpList_nil ?_
              refine hK35 _ _ ?_
              refine wp_ret ?_
              try simp only [Exit.then, Exit.inBlock]
              exact fin_ret hF (res1 (v := .bool true) hF rfl rfl) ⟨rfl, hH.mods⟩
            · have hc86 := hb86; try simp only [Bool.or_eq_true, Bool.and_eq_true, Bool.or_eq_false_iff, Bool.and_eq_false_iff, Bool.not_eq_true', Bool.not_eq_false', decide_eq_true_eq, decide_eq_false_iff_not, Bool.not_true, Bool.not_false] at hc86
              refine l_offg hF ((wanted_of hF rfl rfl rfl rfl).trans (by rw [hb86]; rfl)) rfl rfl ?_; clear hF; intro a hF
              refine l_offg hF ((wanted_of hF rfl rfl rfl rfl).trans (by rw [hb86]; rfl)) rfl rfl ?_; clear hF; intro a hF
              refine l_offg hF ((wanted_of hF rfl rfl rfl rfl).trans (by rw [hb86]; rfl)) rfl rfl ?_; clear hF; intro a hF
              refine l_offg hF ((wanted_of hF rfl rfl rfl rfl).trans (by rw [hb86]; rfl)) rfl rfl ?_; clear hF; intro a hF
              refine l_offg hF ((wanted_of hF rfl rfl rfl rfl).trans (by rw [hb86]; rfl)) rfl rfl ?_; clear hF; intro a hF
              refine l_at hF rfl rfl rfl (x_pickF (hF.tmp 86 rfl) hb86 rfl) ?_; clear hF; intro a hF
              refine wpList_nil ?_
              refine hK34 _ _ ?_
              refine wp_cond_false (hF.tmp 92 rfl) ?_
              refine wp_skip ?_
              refine hK31 _ _ ?_
              refine wp_seq_k fun khK36 hK36 => ?_
              refine wp_region_lit ?_
              refine wpList_plain rfl fun K hK => ?_
              refine w_call hF (x_enter Tryd.func11 (by kernel_rfl) rfl (by simp only [List.map_toArray, List.map_cons, List.map_nil] <;> rfl)) (alive_calls _ (hH.holds 990 _ rfl)) rfl rfl ?_
              rintro _ w ⟨rfl, hm_⟩; refine ⟨_, rfl, ?_⟩; clear hF; intro a hF; have hH := hH.same hm_
              refine hK _ _ ?_; clear hK K
              refine l_at hF rfl rfl rfl (x_move (hF.tmp 93 rfl)) ?_; clear hF; intro a hF
              refine l_atg hF ((wanted_of hF rfl rfl rfl rfl).trans rfl) rfl rfl (x_move (hF.tmp 13 rfl)) ?_; clear hF; intro a hF
              refine l_atg hF ((wanted_of hF rfl rfl rfl rfl).trans rfl) rfl rfl (x_eql (hF.tmp 95 rfl) rfl) ?_; clear hF; intro a hF
              refine l_at hF rfl rfl rfl (x_pickT (hF.tmp 94 rfl) rfl (hF.tmp 96 rfl)) ?_; clear hF; intro a hF
              refine l_at hF rfl rfl rfl (x_move (hF.tmp 97 rfl)) ?_; clear hF; intro a hF
              refine l_atg hF ((wanted_of hF rfl rfl rfl rfl).trans rfl) rfl rfl (x_move (hF.tmp 14 rfl)) ?_; clear hF; intro a hF
              refine l_at hF rfl rfl rfl (x_pickT (hF.tmp 98 rfl) rfl (hF.tmp 99 rfl)) ?_; clear hF; intro a hF
              refine l_at hF rfl rfl rfl (x_assign (hF.tmp 100 rfl)) ?_; clear hF; intro a hF
              refine wpList_nil ?_
              refine hK36 _ _ ?_
              refine wp_ret ?_
              try simp only [Exit.then, Exit.inBlock]
              exact fin_ret hF (res1 (v := .bool true) hF rfl rfl) ⟨rfl, hH.mods⟩
          · have hk74_12 := hc74; try simp only [Bool.or_eq_true, Bool.and_eq_true, Bool.or_eq_false_iff, Bool.and_eq_false_iff, Bool.not_eq_true', Bool.not_eq_false', decide_eq_true_eq, decide_eq_false_iff_not, Bool.not_true, Bool.not_false] at hc74
            refine wp_skip ?_
            refine hK31 _ _ ?_
            refine wp_seq_k fun khK37 hK37 => ?_
            refine wp_region_lit ?_
            refine wpList_plain rfl fun K hK => ?_
            refine w_call hF (x_enter Tryd.func11 (by kernel_rfl) rfl (by simp only [List.map_toArray, List.map_cons, List.map_nil] <;> rfl)) (alive_calls _ (hH.holds 990 _ rfl)) rfl rfl ?_
            rintro _ w ⟨rfl, hm_⟩; refine ⟨_, rfl, ?_⟩; clear hF; intro a hF; have hH := hH.same hm_
            refine hK _ _ ?_; clear hK K
            refine l_at hF rfl rfl rfl (x_move (hF.tmp 93 rfl)) ?_; clear hF; intro a hF
            refine l_atg hF ((wanted_of hF rfl rfl rfl rfl).trans rfl) rfl rfl (x_move (hF.tmp 13 rfl)) ?_; clear hF; intro a hF
            refine l_atg hF ((wanted_of hF rfl rfl rfl rfl).trans rfl) rfl rfl (x_eql (hF.tmp 95 rfl) rfl) ?_; clear hF; intro a hF
            refine l_at hF rfl rfl rfl (x_pickT (hF.tmp 94 rfl) rfl (hF.tmp 96 rfl)) ?_; clear hF; intro a hF
            refine l_at hF rfl rfl rfl (x_move (hF.tmp 97 rfl)) ?_; clear hF; intro a hF
            refine l_atg hF ((wanted_of hF rfl rfl rfl rfl).trans rfl) rfl rfl (x_move (hF.tmp 14 rfl)) ?_; clear hF; intro a hF
            refine l_at hF rfl rfl rfl (x_pickT (hF.tmp 98 rfl) rfl (hF.tmp 99 rfl)) ?_; clear hF; intro a hF
            refine l_at hF rfl rfl rfl (x_assign (hF.tmp 100 rfl)) ?_; clear hF; intro a hF
            refine wpList_nil ?_
            refine hK37 _ _ ?_
            refine wp_ret ?_
            try simp only [Exit.then, Exit.inBlock]
            exact fin_ret hF (res1 (v := .bool true) hF rfl rfl) ⟨rfl, hH.mods⟩

end Go.Proofs.YtlcnoibjhmflnaaDoor.Act
