/- What is safe is kept, walked. -/
import Derived.Test.YtkocinnoncacgaaDskE
set_option linter.unusedVariables false
set_option linter.unusedSimpArgs false
namespace Go.Proofs.Ytkocinnoncacgaa.Dsk
open Go.RowKit Go.Proofs.Ytkocinnoncacgaa.Sx
theorem ty51 : TyI Try.prog 51 (.agg #[.slice none 0 0, .slice none 0 0]) 2 48 true := ⟨by kernel_rfl, _, Try.underlying51, rfl⟩
set_option maxRecDepth 100000 in
set_option maxHeartbeats 1000000 in
theorem safe_law_calls (w0 : World) {ok ok2 ok3 : Nat → Prop} {Al Ab Ak : Option Addr} {l : List (List (List Int))} {root keep : List Int} {cl cb ck : Nat} (hrl : Rd P2 w0 ok Al l cl) (hrb : Rd (.int .u8) w0 ok2 Ab root cb) (hrk : Rd (.int .i64) w0 ok3 Ak keep ck) (hkp : ∀ c ∈ keep, -9223372036854775808 ≤ c ∧ c < 9223372036854775808) : Calls Try.prog 5 #[.slice Al l.length cl, .slice Ab root.length cb, .slice Ak keep.length ck] w0 fun e w' => e = .returned (.bool true) ∧ Mods (fun _ => False) w0 w' := by
  refine calls_of_wp Try.func5 rfl ?_
  have hF := Fr.enter #[.slice Al l.length cl, .slice Ab root.length cb, .slice Ak keep.length ck] 177 (slotsOf [.slice Al l.length cl, .slice Ab root.length cb, .slice Ak keep.length ck] 0) (Nat.le_of_ble_eq_true rfl) (fun i v h => by have h2 := (get_slotsOf _ 0 i v h).2; simpa only [List.getElem?_toArray, Nat.sub_zero] using h2)
  have hH := Hp.nil (fun _ => False) w0
  rw [Try.ntmps5]
  revert hF; generalize (⟨(#[.slice Al l.length cl, .slice Ab root.length cb, .slice Ak keep.length ck] : Array Value) ++ Array.replicate (177 - (#[.slice Al l.length cl, .slice Ab root.length cb, .slice Ak keep.length ck] : Array Value).size) undef, []⟩ : Act) = a; intro hF
  have hH := hH.arg 901 hrl.all (fun _ h => ⟨h, fun h => h⟩)
  have hle901 := hrl.le; unfold maxLen at hle901
  have hH := hH.arg 902 hrb.all (fun _ h => ⟨h, fun h => h⟩)
  have hle902 := hrb.le; unfold maxLen at hle902
  have hH := hH.arg 903 hrk.all (fun _ h => ⟨h, fun h => h⟩)
  have hle903 := hrk.le; unfold maxLen at hle903
  refine wp_seq_k fun khK1 hK1 => ?_
  refine wp_region_lit ?_
  refine l_at hF rfl rfl rfl (x_assign rfl) ?_; clear hF; intro a hF
  refine wpList_nil ?_
  refine hK1 _ _ ?_
  refine wp_seq_k fun khK2 hK2 => ?_
  refine wp_region_lit ?_
  refine wpList_plain rfl fun K hK => ?_
  refine w_call hF (x_enter Try.func20 (by kernel_rfl) rfl (by simp only [List.map_toArray, List.map_cons, List.map_nil] <;> rfl)) (new_calls _) rfl rfl ?_
  rintro _ w ⟨bd1, X1, rfl, hD1, hok_, hm_, hn_, hr_⟩; refine ⟨_, rfl, ?_⟩; clear hF; intro a hF; have hH := hH.newX 70 hm_ hok_ hn_ (fun k h => (hr_ k h).elim)
  refine hK _ _ ?_; clear hK K
  refine l_at hF rfl rfl rfl (x_assign (hF.tmp 18 rfl)) ?_; clear hF; intro a hF
  refine wpList_nil ?_
  refine hK2 _ _ ?_
  refine wp_seq_k fun khK3 hK3 => ?_
  refine wp_seq_k fun khK4 hK4 => ?_
  refine wp_region_lit ?_
  refine l_at hF rfl rfl rfl (x_move (hF.tmp 7 rfl)) ?_; clear hF; intro a hF
  refine l_at hF rfl rfl rfl (x_ptrnil Try.underlying40 (hF.tmp 19 rfl) rfl) ?_; clear hF; intro a hF
  refine l_at hF rfl rfl rfl (x_move (hF.tmp 20 rfl)) ?_; clear hF; intro a hF
  refine l_atg hF ((wanted_of hF rfl rfl rfl rfl).trans rfl) rfl rfl (x_move (hF.tmp 0 rfl)) ?_; clear hF; intro a hF
  refine l_atg hF ((wanted_of hF rfl rfl rfl rfl).trans rfl) rfl rfl (x_len_slice Try.underlying50 (hF.tmp 22 rfl)) ?_; clear hF; intro a hF
  refine l_atg hF ((wanted_of hF rfl rfl rfl rfl).trans rfl) rfl rfl (x_gtr (hF.tmp 23 rfl) rfl) ?_; clear hF; intro a hF
  refine l_at hF rfl rfl rfl (x_pickF (hF.tmp 21 rfl) rfl (hF.tmp 24 rfl)) ?_; clear hF; intro a hF
  refine l_at hF rfl rfl rfl (x_move (hF.tmp 25 rfl)) ?_; clear hF; intro a hF
  refine split_bool hF 26 rfl (fun hb26 => ?_) (fun hb26 => ?_)
  · have hc26 := hb26; try simp only [Bool.or_eq_true, Bool.and_eq_true, Bool.or_eq_false_iff, Bool.and_eq_false_iff, Bool.not_eq_true', Bool.not_eq_false', decide_eq_true_eq, decide_eq_false_iff_not, Bool.not_true, Bool.not_false] at hc26
    refine l_offg hF ((wanted_of hF rfl rfl rfl rfl).trans (by rw [hb26]; rfl)) rfl rfl ?_; clear hF; intro a hF
    refine l_offg hF ((wanted_of hF rfl rfl rfl rfl).trans (by rw [hb26]; rfl)) rfl rfl ?_; clear hF; intro a hF
    refine l_offg hF ((wanted_of hF rfl rfl rfl rfl).trans (by rw [hb26]; rfl)) rfl rfl ?_; clear hF; intro a hF
    refine l_at hF rfl rfl rfl (x_pickT (hF.tmp 26 rfl) hb26 rfl) ?_; clear hF; intro a hF
    refine wpList_nil ?_
    refine hK4 _ _ ?_
    refine wp_cond_true (hF.tmp 30 rfl) ?_
    refine wp_seq_k fun khK5 hK5 => ?_
    refine wp_region_lit ?_
    refine wpList_plain rfl fun K hK => ?_
    refine w_call hF (x_enter Try.func21 (by kernel_rfl) rfl (by simp only [List.map_toArray, List.map_cons, List.map_nil] <;> rfl)) (alive_calls _) rfl rfl ?_
    rintro _ w ⟨rfl, hm_⟩; refine ⟨_, rfl, ?_⟩; clear hF; intro a hF; have hH := hH.same hm_
    refine hK _ _ ?_; clear hK K
    refine l_at hF rfl rfl rfl (x_assign (hF.tmp 31 rfl)) ?_; clear hF; intro a hF
    refine wpList_nil ?_
    refine hK5 _ _ ?_
    refine wp_ret ?_
    try simp only [Exit.then, Exit.inBlock]
    exact fin_ret hF (res1 hF rfl rfl) ⟨rfl, hH.mods⟩
  · have hc26 := hb26; try simp only [Bool.or_eq_true, Bool.and_eq_true, Bool.or_eq_false_iff, Bool.and_eq_false_iff, Bool.not_eq_true', Bool.not_eq_false', decide_eq_true_eq, decide_eq_false_iff_not, Bool.not_true, Bool.not_false] at hc26
    refine l_atg hF ((wanted_of hF rfl rfl rfl rfl).trans (by rw [hb26]; rfl)) rfl rfl (x_move (hF.tmp 1 rfl)) ?_; clear hF; intro a hF
    refine l_atg hF ((wanted_of hF rfl rfl rfl rfl).trans (by rw [hb26]; rfl)) rfl rfl (x_len_slice Try.underlying42 (hF.tmp 27 rfl)) ?_; clear hF; intro a hF
    refine l_atg hF ((wanted_of hF rfl rfl rfl rfl).trans (by rw [hb26]; rfl)) rfl rfl (x_gtr (hF.tmp 28 rfl) rfl) ?_; clear hF; intro a hF
    refine l_at hF rfl rfl rfl (x_pickF (hF.tmp 26 rfl) hb26 (hF.tmp 29 rfl)) ?_; clear hF; intro a hF
    refine wpList_nil ?_
    refine hK4 _ _ ?_
    refine wp_cond_split (hF.tmp 30 rfl) (fun hc30 => ?_) (fun hc30 => ?_)
    · try simp only [Bool.or_eq_true, Bool.and_eq_true, Bool.or_eq_false_iff, Bool.and_eq_false_iff, Bool.not_eq_true', Bool.not_eq_false', decide_eq_true_eq, decide_eq_false_iff_not, Bool.not_true, Bool.not_false] at hc30
      refine wp_seq_k fun khK6 hK6 => ?_
      refine wp_region_lit ?_
      refine wpList_plain rfl fun K hK => ?_
      refine w_call hF (x_enter Try.func21 (by kernel_rfl) rfl (by simp only [List.map_toArray, List.map_cons, List.map_nil] <;> rfl)) (alive_calls _) rfl rfl ?_
      rintro _ w ⟨rfl, hm_⟩; refine ⟨_, rfl, ?_⟩; clear hF; intro a hF; have hH := hH.same hm_
      refine hK _ _ ?_; clear hK K
      refine l_at hF rfl rfl rfl (x_assign (hF.tmp 31 rfl)) ?_; clear hF; intro a hF
      refine wpList_nil ?_
      refine hK6 _ _ ?_
      refine wp_ret ?_
      try simp only [Exit.then, Exit.inBlock]
      exact fin_ret hF (res1 hF rfl rfl) ⟨rfl, hH.mods⟩
    · try simp only [Bool.or_eq_true, Bool.and_eq_true, Bool.or_eq_false_iff, Bool.and_eq_false_iff, Bool.not_eq_true', Bool.not_eq_false', decide_eq_true_eq, decide_eq_false_iff_not, Bool.not_true, Bool.not_false] at hc30
      refine wp_skip ?_
      refine hK3 _ _ ?_
      refine wp_seq_k fun khK7 hK7 => ?_
      refine wp_seq_k fun khK8 hK8 => ?_
      refine wp_region_lit ?_
      refine l_at hF rfl rfl rfl (x_assign rfl) ?_; clear hF; intro a hF
      refine wpList_nil ?_
      refine hK8 _ _ ?_
      refine wp_block ?_
      refine wp_loop_ghost (fun n_ a w => ∃ k : Nat, ∃ X_ : Asn, n_ = l.length - k ∧ (k ≤ l.length) ∧ (DiskA 106 bd1 (dmS l k) [] X_) ∧ (∀ i < k, (gb (gp l (i : Int)) 0).length ≤ 250 ∧ (gb (gp l (i : Int)) 1).length ≤ 250) ∧ Fr 177 a [(0, .slice Al l.length cl), (1, .slice Ab root.length cb), (2, .slice Ak keep.length ck), (7, .pointer (some ⟨bd1, 0, none⟩)), (8, .int .i64 (k : Int))] ∧ Hp (fun _ => False) w0 w [(901, .rd_ P2 Al l cl (fun k => k < w0.heap.size)), (902, .rd_ (.int .u8) Ab root cb (fun k => k < w0.heap.size)), (903, .rd_ (.int .i64) Ak keep ck (fun k => k < w0.heap.size)), (70, X_)]) (l.length) ?_ ?_
      · exact ⟨0, X1, rfl, by omega, hD1, by omega, (((((hF.bare.add hF 8 rfl).add hF 7 rfl).add hF 2 rfl).add hF 1 rfl).add hF 0 rfl), hH.sub _ (sub_cons (sub_cons (sub_cons (sub_cons (sub_nil _) 70 rfl) 903 rfl) 902 rfl) 901 rfl)⟩
      · rintro _ a w ⟨k, X_, rfl, hq0_0, hq0_1, hq0_2, hF, hH⟩
        refine wp_seq_k fun khK9 hK9 => ?_
        refine wp_seq_k fun khK10 hK10 => ?_
        refine wp_region_lit ?_
        refine l_at hF rfl rfl rfl (x_move (hF.tmp 8 rfl)) ?_; clear hF; intro a hF
        refine l_at hF rfl rfl rfl (x_move (hF.tmp 0 rfl)) ?_; clear hF; intro a hF
        refine l_at hF rfl rfl rfl (x_len_slice Try.underlying50 (hF.tmp 33 rfl)) ?_; clear hF; intro a hF
        refine l_at hF rfl rfl rfl (x_lss (hF.tmp 32 rfl) (hF.tmp 34 rfl)) ?_; clear hF; intro a hF
        refine wpList_nil ?_
        refine hK10 _ _ ?_
        refine wp_cond_split (hF.tmp 35 rfl) (fun hc35 => ?_) (fun hc35 => ?_)
        · try simp only [Bool.or_eq_true, Bool.and_eq_true, Bool.or_eq_false_iff, Bool.and_eq_false_iff, Bool.not_eq_true', Bool.not_eq_false', decide_eq_true_eq, decide_eq_false_iff_not, Bool.not_true, Bool.not_false] at hc35
          refine wp_skip ?_
          refine hK9 _ _ ?_
          refine wp_seq_k fun khK11 hK11 => ?_
          refine wp_block ?_
          refine wp_seq_k fun khK12 hK12 => ?_
          refine wp_seq_k fun khK13 hK13 => ?_
          refine wp_region_lit ?_
          obtain ⟨fA1_0, fc1_0, fA1_1, fc1_1, hfr1_0, hfr1_1, hf1_0, hf1_1, hfw1⟩ := rd_p2 ((hH.rd 901 rfl)) (gp_some (xs := l) (i := (k : Int)) (by omega) (by omega))
          have hH := hH.subrd 901 rfl 1000 hfr1_0 (fun _ h => h)
          have hH := hH.subrd 901 rfl 1001 hfr1_1 (fun _ h => h)
          have hH := hH.subcel 901 rfl 1500 hf1_0 (Rd.inok ((hH.rd 901 rfl)) (by omega) _)
          have hH := hH.subcel 901 rfl 1501 hf1_1 (Rd.inok ((hH.rd 901 rfl)) (by omega) _)
          refine l_at hF rfl rfl rfl (x_move (hF.tmp 0 rfl)) ?_; clear hF; intro a hF
          refine l_at hF rfl rfl rfl (x_move (hF.tmp 8 rfl)) ?_; clear hF; intro a hF
          refine l_at hF rfl rfl rfl (x_iaddr_A Try.underlying50 ty51 ((hH.rd 901 rfl)) (hF.tmp 38 rfl) (hF.tmp 39 rfl) (by omega) (by omega) _) ?_; clear hF; intro a hF
          refine l_at hF rfl rfl rfl (x_iaddrA ((hH.rd 901 rfl)) (by omega) _ Try.underlying51 ty42 (hF.tmp 40 rfl) rfl (by decide) (by decide) rfl) ?_; clear hF; intro a hF
          refine l_at hF rfl rfl rfl (x_load1 ty42 (hF.tmp 41 rfl) (hH.holds 1500 _ rfl)) ?_; clear hF; intro a hF
          refine l_at hF rfl rfl rfl (x_len_slice Try.underlying42 (hF.tmp 42 rfl)) ?_; clear hF; intro a hF
          refine l_at hF rfl rfl rfl (x_gtr (hF.tmp 43 rfl) rfl) ?_; clear hF; intro a hF
          refine l_at hF rfl rfl rfl (x_move (hF.tmp 44 rfl)) ?_; clear hF; intro a hF
          refine split_bool hF 45 rfl (fun hb45 => ?_) (fun hb45 => ?_)
          · have hc45 := hb45; try simp only [Bool.or_eq_true, Bool.and_eq_true, Bool.or_eq_false_iff, Bool.and_eq_false_iff, Bool.not_eq_true', Bool.not_eq_false', decide_eq_true_eq, decide_eq_false_iff_not, Bool.not_true, Bool.not_false] at hc45
            refine l_offg hF ((wanted_of hF rfl rfl rfl rfl).trans (by rw [hb45]; rfl)) rfl rfl ?_; clear hF; intro a hF
            refine l_offg hF ((wanted_of hF rfl rfl rfl rfl).trans (by rw [hb45]; rfl)) rfl rfl ?_; clear hF; intro a hF
            refine l_offg hF ((wanted_of hF rfl rfl rfl rfl).trans (by rw [hb45]; rfl)) rfl rfl ?_; clear hF; intro a hF
            refine l_offg hF ((wanted_of hF rfl rfl rfl rfl).trans (by rw [hb45]; rfl)) rfl rfl ?_; clear hF; intro a hF
            refine l_offg hF ((wanted_of hF rfl rfl rfl rfl).trans (by rw [hb45]; rfl)) rfl rfl ?_; clear hF; intro a hF
            refine l_offg hF ((wanted_of hF rfl rfl rfl rfl).trans (by rw [hb45]; rfl)) rfl rfl ?_; clear hF; intro a hF
            refine l_offg hF ((wanted_of hF rfl rfl rfl rfl).trans (by rw [hb45]; rfl)) rfl rfl ?_; clear hF; intro a hF
            refine l_at hF rfl rfl rfl (x_pickT (hF.tmp 45 rfl) hb45 rfl) ?_; clear hF; intro a hF
            refine wpList_nil ?_
            refine hK13 _ _ ?_
            refine wp_cond_true (hF.tmp 53 rfl) ?_
            refine wp_seq_k fun khK14 hK14 => ?_
            refine wp_region_lit ?_
            refine wpList_plain rfl fun K hK => ?_
            refine w_call hF (x_enter Try.func21 (by kernel_rfl) rfl (by simp only [List.map_toArray, List.map_cons, List.map_nil] <;> rfl)) (alive_calls _) rfl rfl ?_
            rintro _ w ⟨rfl, hm_⟩; refine ⟨_, rfl, ?_⟩; clear hF; intro a hF; have hH := hH.same hm_
            refine hK _ _ ?_; clear hK K
            refine l_at hF rfl rfl rfl (x_assign (hF.tmp 54 rfl)) ?_; clear hF; intro a hF
            refine wpList_nil ?_
            refine hK14 _ _ ?_
            refine wp_ret ?_
            try simp only [Exit.then, Exit.inBlock]
            exact fin_ret hF (res1 hF rfl rfl) ⟨rfl, hH.mods⟩
          · have hc45 := hb45; try simp only [Bool.or_eq_true, Bool.and_eq_true, Bool.or_eq_false_iff, Bool.and_eq_false_iff, Bool.not_eq_true', Bool.not_eq_false', decide_eq_true_eq, decide_eq_false_iff_not, Bool.not_true, Bool.not_false] at hc45
            refine l_atg hF ((wanted_of hF rfl rfl rfl rfl).trans (by rw [hb45]; rfl)) rfl rfl (x_move (hF.tmp 0 rfl)) ?_; clear hF; intro a hF
            refine l_atg hF ((wanted_of hF rfl rfl rfl rfl).trans (by rw [hb45]; rfl)) rfl rfl (x_move (hF.tmp 8 rfl)) ?_; clear hF; intro a hF
            refine l_atg hF ((wanted_of hF rfl rfl rfl rfl).trans (by rw [hb45]; rfl)) rfl rfl (x_iaddr_A Try.underlying50 ty51 ((hH.rd 901 rfl)) (hF.tmp 46 rfl) (hF.tmp 47 rfl) (by omega) (by omega) _) ?_; clear hF; intro a hF
            refine l_atg hF ((wanted_of hF rfl rfl rfl rfl).trans (by rw [hb45]; rfl)) rfl rfl (x_iaddrA ((hH.rd 901 rfl)) (by omega) _ Try.underlying51 ty42 (hF.tmp 48 rfl) rfl (by decide) (by decide) rfl) ?_; clear hF; intro a hF
            refine l_atg hF ((wanted_of hF rfl rfl rfl rfl).trans (by rw [hb45]; rfl)) rfl rfl (x_load1 ty42 (hF.tmp 49 rfl) (hH.holds 1501 _ rfl)) ?_; clear hF; intro a hF
            refine l_atg hF ((wanted_of hF rfl rfl rfl rfl).trans (by rw [hb45]; rfl)) rfl rfl (x_len_slice Try.underlying42 (hF.tmp 50 rfl)) ?_; clear hF; intro a hF
            refine l_atg hF ((wanted_of hF rfl rfl rfl rfl).trans (by rw [hb45]; rfl)) rfl rfl (x_gtr (hF.tmp 51 rfl) rfl) ?_; clear hF; intro a hF
            refine l_at hF rfl rfl rfl (x_pickF (hF.tmp 45 rfl) hb45 (hF.tmp 52 rfl)) ?_; clear hF; intro a hF
            refine wpList_nil ?_
            refine hK13 _ _ ?_
            refine wp_cond_split (hF.tmp 53 rfl) (fun hc53 => ?_) (fun hc53 => ?_)
            · try simp only [Bool.or_eq_true, Bool.and_eq_true, Bool.or_eq_false_iff, Bool.and_eq_false_iff, Bool.not_eq_true', Bool.not_eq_false', decide_eq_true_eq, decide_eq_false_iff_not, Bool.not_true, Bool.not_false] at hc53
              refine wp_seq_k fun khK15 hK15 => ?_
              refine wp_region_lit ?_
              refine wpList_plain rfl fun K hK => ?_
              refine w_call hF (x_enter Try.func21 (by kernel_rfl) rfl (by simp only [List.map_toArray, List.map_cons, List.map_nil] <;> rfl)) (alive_calls _) rfl rfl ?_
              rintro _ w ⟨rfl, hm_⟩; refine ⟨_, rfl, ?_⟩; clear hF; intro a hF; have hH := hH.same hm_
              refine hK _ _ ?_; clear hK K
              refine l_at hF rfl rfl rfl (x_assign (hF.tmp 54 rfl)) ?_; clear hF; intro a hF
              refine wpList_nil ?_
              refine hK15 _ _ ?_
              refine wp_ret ?_
              try simp only [Exit.then, Exit.inBlock]
              exact fin_ret hF (res1 hF rfl rfl) ⟨rfl, hH.mods⟩
            · try simp only [Bool.or_eq_true, Bool.and_eq_true, Bool.or_eq_false_iff, Bool.and_eq_false_iff, Bool.not_eq_true', Bool.not_eq_false', decide_eq_true_eq, decide_eq_false_iff_not, Bool.not_true, Bool.not_false] at hc53
              refine wp_skip ?_
              refine hK12 _ _ ?_
              refine wp_seq_k fun khK16 hK16 => ?_
              refine wp_region_lit ?_
              refine l_at hF rfl rfl rfl (x_move (hF.tmp 7 rfl)) ?_; clear hF; intro a hF
              refine l_at hF rfl rfl rfl (x_move (hF.tmp 8 rfl)) ?_; clear hF; intro a hF
              refine l_at hF rfl rfl rfl (x_mul rfl (hF.tmp 56 rfl) (w64 (by omega) (by omega))) ?_; clear hF; intro a hF
              refine l_at hF rfl rfl rfl (x_move (hF.tmp 0 rfl)) ?_; clear hF; intro a hF
              refine l_at hF rfl rfl rfl (x_move (hF.tmp 8 rfl)) ?_; clear hF; intro a hF
              refine l_at hF rfl rfl rfl (x_iaddr_A Try.underlying50 ty51 ((hH.rd 901 rfl)) (hF.tmp 58 rfl) (hF.tmp 59 rfl) (by omega) (by omega) _) ?_; clear hF; intro a hF
              refine l_at hF rfl rfl rfl (x_iaddrA ((hH.rd 901 rfl)) (by omega) _ Try.underlying51 ty42 (hF.tmp 60 rfl) rfl (by decide) (by decide) rfl) ?_; clear hF; intro a hF
              refine l_at hF rfl rfl rfl (x_load1 ty42 (hF.tmp 61 rfl) (hH.holds 1500 _ rfl)) ?_; clear hF; intro a hF
              refine wpList_plain rfl fun K hK => ?_
              refine w_call hF (x_enter Try.func22 (by kernel_rfl) rfl (by simp only [List.map_toArray, List.map_cons, List.map_nil, hF.tmp 55 rfl, hF.tmp 57 rfl, hF.tmp 62 rfl] <;> rfl)) (app_calls _ hq0_1 (it_ok hH 70 rfl) (3 * (k : Int)) ((hH.rd 1000 rfl)) (fun k hk => hH.inb 1000 _ rfl k (.inr hk)) (fun k hk h => hH.sep 70 1000 _ _ (by decide) rfl rfl k h (.inr hk))) rfl rfl ?_
              rintro _ w ⟨X1_1, rfl, hD1_1, hG_⟩; refine ⟨_, rfl, ?_⟩; clear hF; intro a hF; have hH := hH.grew 70 rfl hG_ (fun k h => h.elim)
              refine hK _ _ ?_; clear hK K
              refine wpList_nil ?_
              refine hK16 _ _ ?_
              refine wp_seq_k fun khK17 hK17 => ?_
              refine wp_region_lit ?_
              refine l_at hF rfl rfl rfl (x_move (hF.tmp 7 rfl)) ?_; clear hF; intro a hF
              refine l_at hF rfl rfl rfl (x_move (hF.tmp 8 rfl)) ?_; clear hF; intro a hF
              refine l_at hF rfl rfl rfl (x_mul rfl (hF.tmp 65 rfl) (w64 (by omega) (by omega))) ?_; clear hF; intro a hF
              refine wpList_plain rfl fun K hK => ?_
              refine w_call hF (x_enter Try.func27 (by kernel_rfl) rfl (by simp only [List.map_toArray, List.map_cons, List.map_nil, hF.tmp 64 rfl, hF.tmp 66 rfl] <;> rfl)) (sync_calls _ hD1_1 (it_ok hH 70 rfl) (3 * (k : Int))) rfl rfl ?_
              rintro _ w ⟨X1_2, rfl, hD1_2, hG_⟩; refine ⟨_, rfl, ?_⟩; clear hF; intro a hF; have hH := hH.grew 70 rfl hG_ (fun k h => h.elim)
              refine hK _ _ ?_; clear hK K
              refine wpList_nil ?_
              refine hK17 _ _ ?_
              refine wp_region_lit ?_
              refine l_at hF rfl rfl rfl (x_move (hF.tmp 7 rfl)) ?_; clear hF; intro a hF
              refine l_at hF rfl rfl rfl (x_move (hF.tmp 8 rfl)) ?_; clear hF; intro a hF
              refine l_at hF rfl rfl rfl (x_mul rfl (hF.tmp 69 rfl) (w64 (by omega) (by omega))) ?_; clear hF; intro a hF
              refine l_at hF rfl rfl rfl (x_move (hF.tmp 0 rfl)) ?_; clear hF; intro a hF
              refine l_at hF rfl rfl rfl (x_move (hF.tmp 8 rfl)) ?_; clear hF; intro a hF
              refine l_at hF rfl rfl rfl (x_iaddr_A Try.underlying50 ty51 ((hH.rd 901 rfl)) (hF.tmp 71 rfl) (hF.tmp 72 rfl) (by omega) (by omega) _) ?_; clear hF; intro a hF
              refine l_at hF rfl rfl rfl (x_iaddrA ((hH.rd 901 rfl)) (by omega) _ Try.underlying51 ty42 (hF.tmp 73 rfl) rfl (by decide) (by decide) rfl) ?_; clear hF; intro a hF
              refine l_at hF rfl rfl rfl (x_load1 ty42 (hF.tmp 74 rfl) (hH.holds 1501 _ rfl)) ?_; clear hF; intro a hF
              refine wpList_plain rfl fun K hK => ?_
              refine w_call hF (x_enter Try.func22 (by kernel_rfl) rfl (by simp only [List.map_toArray, List.map_cons, List.map_nil, hF.tmp 68 rfl, hF.tmp 70 rfl, hF.tmp 75 rfl] <;> rfl)) (app_calls _ hD1_2 (it_ok hH 70 rfl) (3 * (k : Int)) ((hH.rd 1001 rfl)) (fun k hk => hH.inb 1001 _ rfl k (.inr hk)) (fun k hk h => hH.sep 70 1001 _ _ (by decide) rfl rfl k h (.inr hk))) rfl rfl ?_
              rintro _ w ⟨X1_3, rfl, hD1_3, hG_⟩; refine ⟨_, rfl, ?_⟩; clear hF; intro a hF; have hH := hH.grew 70 rfl hG_ (fun k h => h.elim)
              refine hK _ _ ?_; clear hK K
              rw [dmS_step (by omega) (by omega) (by omega)] at hD1_3
              have hsm2 : ∀ i < k + 1, (gb (gp l (i : Int)) 0).length ≤ 250 ∧ (gb (gp l (i : Int)) 1).length ≤ 250 := fun i hi => by
                by_cases e : i = k
                · subst e; omega
                · exact hq0_2 i (by omega)
              refine wpList_nil ?_
              refine hK11 _ _ ?_
              refine wp_region_lit ?_
              refine l_at hF rfl rfl rfl (x_move (hF.tmp 8 rfl)) ?_; clear hF; intro a hF
              refine l_at hF rfl rfl rfl (x_add (hF.tmp 36 rfl) rfl (w64 (by omega) (by omega))) ?_; clear hF; intro a hF
              refine l_at hF rfl rfl rfl (x_assign (hF.tmp 37 rfl)) ?_; clear hF; intro a hF
              refine wpList_nil ?_
              exact ⟨_, by omega, ⟨k + 1, X1_3, rfl, by omega, hD1_3, hsm2, (((((hF.bare.add hF 8 rfl).add hF 7 rfl).add hF 2 rfl).add hF 1 rfl).add hF 0 rfl), hH.sub _ (sub_cons (sub_cons (sub_cons (sub_cons (sub_nil _) 70 rfl) 903 rfl) 902 rfl) 901 rfl)⟩⟩
        · try simp only [Bool.or_eq_true, Bool.and_eq_true, Bool.or_eq_false_iff, Bool.and_eq_false_iff, Bool.not_eq_true', Bool.not_eq_false', decide_eq_true_eq, decide_eq_false_iff_not, Bool.not_true, Bool.not_false] at hc35
          obtain rfl : k = l.length := by omega
          have hinv := dmS_inv (l := l) (by omega) hq0_2
          have hsm := hq0_2
          refine wp_exit ?_
          refine hK7 _ _ ?_
          refine wp_seq_k fun khK18 hK18 => ?_
          refine wp_region_lit ?_
          refine l_at hF rfl rfl rfl (x_move (hF.tmp 7 rfl)) ?_; clear hF; intro a hF
          refine l_at hF rfl rfl rfl (x_move (hF.tmp 1 rfl)) ?_; clear hF; intro a hF
          refine wpList_plain rfl fun K hK => ?_
          refine w_call hF (x_enter Try.func28 (by kernel_rfl) rfl (by simp only [List.map_toArray, List.map_cons, List.map_nil, hF.tmp 77 rfl, hF.tmp 78 rfl] <;> rfl)) (swap_calls _ hq0_1 (it_ok hH 70 rfl) ((hH.rd 902 rfl)) (fun k hk => hH.inb 902 _ rfl k (.inr hk)) (fun k hk h => hH.sep 70 902 _ _ (by decide) rfl rfl k h (.inr hk))) rfl rfl ?_
          rintro _ w ⟨X1_1, rfl, hD1_1, hG_⟩; refine ⟨_, rfl, ?_⟩; clear hF; intro a hF; have hH := hH.grew 70 rfl hG_ (fun k h => h.elim)
          refine hK _ _ ?_; clear hK K
          have hsw := swap_yes (rt := ([] : List Int)) (b := root) (by omega)
          rw [hsw.1] at hF
          rw [hsw.2] at hD1_1
          refine l_at hF rfl rfl rfl (x_assign (hF.tmp 79 rfl)) ?_; clear hF; intro a hF
          refine wpList_nil ?_
          refine hK18 _ _ ?_
          refine wp_seq_k fun khK19 hK19 => ?_
          refine wp_region_lit ?_
          refine l_at hF rfl rfl rfl (x_move (hF.tmp 7 rfl)) ?_; clear hF; intro a hF
          refine l_at hF rfl rfl rfl (x_move (hF.tmp 2 rfl)) ?_; clear hF; intro a hF
          refine wpList_plain rfl fun K hK => ?_
          refine w_call hF (x_enter Try.func29 (by kernel_rfl) rfl (by simp only [List.map_toArray, List.map_cons, List.map_nil, hF.tmp 80 rfl, hF.tmp 81 rfl] <;> rfl)) (power_calls _ hD1_1 (it_ok hH 70 rfl) (by omega) hinv ((hH.rd 903 rfl)) hkp) rfl rfl ?_
          rintro _ w ⟨bd2, mo2, X2, rfl, hD2, hok_, hm_, hn_, hr_, hperm2⟩; refine ⟨_, rfl, ?_⟩; clear hF; intro a hF; have hH := hH.newX 80 hm_ hok_ hn_ hr_
          refine hK _ _ ?_; clear hK K
          have hinv2 := pow_inv hinv keep hperm2
          refine l_at hF rfl rfl rfl (x_assign (hF.tmp 82 rfl)) ?_; clear hF; intro a hF
          refine wpList_nil ?_
          refine hK19 _ _ ?_
          refine wp_seq_k fun khK20 hK20 => ?_
          refine wp_seq_k fun khK21 hK21 => ?_
          refine r_start [(902, .rd_ (.int .u8) Ab root cb (fun k => k < w0.heap.size))] (by kernel_rfl) hH fun hH => ?_
          have hS : SL [(902, .rd_ (.int .u8) Ab root cb (fun k => k < w0.heap.size))] _ := SL.of hH (sub_cons (sub_nil _) 902 rfl)
          refine r_take 0 hF rfl rfl rfl (by kernel_rfl) (by kernel_rfl) (by kernel_rfl) (fun _ _ _ h => h) rfl hS (fun w hS => x_move (hF.tmp 10 rfl)) rfl ?_; clear hF; intro a hF
          refine r_take 1 hF rfl rfl rfl (by kernel_rfl) (by kernel_rfl) (by kernel_rfl) (fun _ _ _ h => h) rfl hS (fun w hS => x_ptrnil Try.underlying40 (hF.tmp 83 rfl) rfl) rfl ?_; clear hF; intro a hF
          refine r_take 2 hF rfl rfl rfl (by kernel_rfl) (by kernel_rfl) (by kernel_rfl) (fun _ _ _ h => h) rfl hS (fun w hS => x_move (hF.tmp 84 rfl)) rfl ?_; clear hF; intro a hF
          refine r_take 3 hF rfl rfl rfl (by kernel_rfl) (by kernel_rfl) (by kernel_rfl) (fun _ _ _ h => h) ((wanted_of hF rfl rfl rfl rfl).trans rfl) hS (fun w hS => x_move (hF.tmp 9 rfl)) rfl ?_; clear hF; intro a hF
          refine r_take 4 hF rfl rfl rfl (by kernel_rfl) (by kernel_rfl) (by kernel_rfl) (fun _ _ _ h => h) ((wanted_of hF rfl rfl rfl rfl).trans rfl) hS (fun w hS => x_neq (hF.tmp 86 rfl) rfl) rfl ?_; clear hF; intro a hF
          rw [show (!decide ((0 : Int) = 0)) = false from rfl] at hF
          refine r_take 5 hF rfl rfl rfl (by kernel_rfl) (by kernel_rfl) (by kernel_rfl) (fun _ _ _ h => h) rfl hS (fun w hS => x_pickF (hF.tmp 85 rfl) rfl (hF.tmp 87 rfl)) rfl ?_; clear hF; intro a hF
          refine r_take 6 hF rfl rfl rfl (by kernel_rfl) (by kernel_rfl) (by kernel_rfl) (fun _ _ _ h => h) rfl hS (fun w hS => x_move (hF.tmp 88 rfl)) rfl ?_; clear hF; intro a hF
          refine r_take 7 hF rfl rfl rfl (by kernel_rfl) (by kernel_rfl) (by kernel_rfl) (fun _ _ _ h => h) ((wanted_of hF rfl rfl rfl rfl).trans rfl) hS (fun w hS => x_move (hF.tmp 10 rfl)) rfl ?_; clear hF; intro a hF
          refine r_take 10 hF rfl rfl rfl (by kernel_rfl) (by kernel_rfl) (by kernel_rfl) (fun _ _ _ h => h) ((wanted_of hF rfl rfl rfl rfl).trans rfl) hS (fun w hS => x_move (hF.tmp 1 rfl)) rfl ?_; clear hF; intro a hF
          refine r_take 11 hF rfl rfl rfl (by kernel_rfl) (by kernel_rfl) (by kernel_rfl) (fun _ _ _ h => h) ((wanted_of hF rfl rfl rfl rfl).trans rfl) hS (fun w hS => x_b2s Try.underlying42 Try.underlying5 Try.underlying9 ((SL.rd hS 902 rfl)) (hF.tmp 93 rfl)) rfl ?_; clear hF; intro a hF
          refine r_do 8 rfl (by kernel_rfl) ((wanted_of hF rfl rfl rfl rfl).trans rfl) rfl ?_
          refine w_call hF (x_enter Try.func30 (by kernel_rfl) rfl (by simp only [List.map_toArray, List.map_cons, List.map_nil, hF.tmp 90 rfl] <;> rfl)) (root_calls _ hD2 (it_ok hH 80 rfl) (by omega)) rfl rfl ?_
          rintro _ w ⟨vr91, rfl, hm_, hr_⟩; refine ⟨_, rfl, ?_⟩; clear hF; intro a hF; have hH := Hp.rowOut hH 91 hm_ hr_; obtain ⟨Ar91, cr91, rfl⟩ := (hH.row 91 rfl).form
          clear hS; have hS : SL _ _ := SL.of hH (sub_cons (sub_nil _) 902 rfl); refine ⟨hS, ?_⟩
          refine r_do 9 rfl (by kernel_rfl) ((wanted_of hF rfl rfl rfl rfl).trans rfl) rfl ?_
          refine w_at hF (x_b2s Try.underlying42 Try.underlying5 Try.underlying9 (Row.rd (ok' := fun k_ => (fun _ => False) k_ ∨ (.slice Ar91 root.length cr91 : Value).ownBlock = some k_) (hH.row 91 rfl) (fun _ hk_ _ => .inl hk_) (fun _ hk_ => .inr hk_)) (hF.tmp 91 rfl)) rfl rfl ?_
          clear hF; intro a hF
          clear hS; have hS : SL _ _ := SL.of hH (sub_cons (sub_nil _) 902 rfl); refine ⟨hS, ?_⟩
          refine r_take 12 hF rfl rfl rfl (by kernel_rfl) (by kernel_rfl) (by kernel_rfl) (fun _ _ _ h => h) ((wanted_of hF rfl rfl rfl rfl).trans rfl) hS (fun w hS => x_nes (hF.tmp 92 rfl) (hF.tmp 94 rfl)) rfl ?_; clear hF; intro a hF
          rw [show ((!decide ((strOfNums root) = (strOfNums root)))) = false by rw [decide_eq_true rfl]; rfl] at hF
          refine r_take 13 hF rfl rfl rfl (by kernel_rfl) (by kernel_rfl) (by kernel_rfl) (fun _ _ _ h => h) rfl hS (fun w hS => x_pickF (hF.tmp 89 rfl) rfl (hF.tmp 95 rfl)) rfl ?_; clear hF; intro a hF
          refine r_end (by kernel_rfl) ?_; clear hS
          refine hK21 _ _ ?_
          refine wp_cond_false (hF.tmp 96 rfl) ?_
          refine wp_skip ?_
          refine hK20 _ _ ?_
          refine wp_seq_k fun khK22 hK22 => ?_
          refine wp_region_lit ?_
          refine l_at hF rfl rfl rfl (x_move (hF.tmp 10 rfl)) ?_; clear hF; intro a hF
          refine l_at hF rfl rfl rfl (x_move (hF.tmp 2 rfl)) ?_; clear hF; intro a hF
          refine wpList_plain rfl fun K hK => ?_
          refine w_call hF (x_enter Try.func29 (by kernel_rfl) rfl (by simp only [List.map_toArray, List.map_cons, List.map_nil, hF.tmp 97 rfl, hF.tmp 98 rfl] <;> rfl)) (power_calls _ hD2 (it_ok hH 80 rfl) (by omega) hinv2 ((hH.rd 903 rfl)) hkp) rfl rfl ?_
          rintro _ w ⟨bd3, mo3, X3, rfl, hD3, hok_, hm_, hn_, hr_, hperm3⟩; refine ⟨_, rfl, ?_⟩; clear hF; intro a hF; have hH := hH.newX 81 hm_ hok_ hn_ hr_
          refine hK _ _ ?_; clear hK K
          have hinv3 := pow_inv hinv2 keep hperm3
          refine l_at hF rfl rfl rfl (x_assign (hF.tmp 99 rfl)) ?_; clear hF; intro a hF
          refine wpList_nil ?_
          refine hK22 _ _ ?_
          refine wp_seq_k fun khK23 hK23 => ?_
          refine wp_seq_k fun khK24 hK24 => ?_
          refine wp_region_lit ?_
          refine l_at hF rfl rfl rfl (x_move (hF.tmp 11 rfl)) ?_; clear hF; intro a hF
          refine l_at hF rfl rfl rfl (x_ptrnil Try.underlying40 (hF.tmp 100 rfl) rfl) ?_; clear hF; intro a hF
          refine wpList_nil ?_
          refine hK24 _ _ ?_
          refine wp_cond_false (hF.tmp 101 rfl) ?_
          refine wp_skip ?_
          refine hK23 _ _ ?_
          refine wp_seq_k fun khK25 hK25 => ?_
          refine wp_seq_k fun khK26 hK26 => ?_
          refine wp_region_lit ?_
          refine l_at hF rfl rfl rfl (x_assign rfl) ?_; clear hF; intro a hF
          refine wpList_nil ?_
          refine hK26 _ _ ?_
          refine wp_block ?_
          refine wp_loop_ghost (fun n_ a w => ∃ j : Nat, n_ = l.length - j ∧ (j ≤ l.length) ∧ Fr 177 a [(0, .slice Al l.length cl), (10, .pointer (some ⟨bd2, 0, none⟩)), (11, .pointer (some ⟨bd3, 0, none⟩)), (12, .int .i64 (j : Int))] ∧ Hp (fun _ => False) w0 w [(901, .rd_ P2 Al l cl (fun k => k < w0.heap.size)), (902, .rd_ (.int .u8) Ab root cb (fun k => k < w0.heap.size)), (903, .rd_ (.int .i64) Ak keep ck (fun k => k < w0.heap.size)), (70, X1_1), (80, X2), (81, X3)]) (l.length) ?_ ?_
          · exact ⟨0, rfl, by omega, ((((hF.bare.add hF 12 rfl).add hF 11 rfl).add hF 10 rfl).add hF 0 rfl), hH.sub _ (sub_cons (sub_cons (sub_cons (sub_cons (sub_cons (sub_cons (sub_nil _) 81 rfl) 80 rfl) 70 rfl) 903 rfl) 902 rfl) 901 rfl)⟩
          · rintro _ a w ⟨j, rfl, hq2_0, hF, hH⟩
            refine wp_seq_k fun khK27 hK27 => ?_
            refine wp_seq_k fun khK28 hK28 => ?_
            refine wp_region_lit ?_
            refine l_at hF rfl rfl rfl (x_move (hF.tmp 12 rfl)) ?_; clear hF; intro a hF
            refine l_at hF rfl rfl rfl (x_move (hF.tmp 0 rfl)) ?_; clear hF; intro a hF
            refine l_at hF rfl rfl rfl (x_len_slice Try.underlying50 (hF.tmp 103 rfl)) ?_; clear hF; intro a hF
            refine l_at hF rfl rfl rfl (x_lss (hF.tmp 102 rfl) (hF.tmp 104 rfl)) ?_; clear hF; intro a hF
            refine wpList_nil ?_
            refine hK28 _ _ ?_
            refine wp_cond_split (hF.tmp 105 rfl) (fun hc105 => ?_) (fun hc105 => ?_)
            · try simp only [Bool.or_eq_true, Bool.and_eq_true, Bool.or_eq_false_iff, Bool.and_eq_false_iff, Bool.not_eq_true', Bool.not_eq_false', decide_eq_true_eq, decide_eq_false_iff_not, Bool.not_true, Bool.not_false] at hc105
              refine wp_skip ?_
              refine hK27 _ _ ?_
              refine wp_seq_k fun khK29 hK29 => ?_
              refine wp_block ?_
              refine wp_seq_k fun khK30 hK30 => ?_
              refine wp_region_lit ?_
              obtain ⟨fA2_0, fc2_0, fA2_1, fc2_1, hfr2_0, hfr2_1, hf2_0, hf2_1, hfw2⟩ := rd_p2 ((hH.rd 901 rfl)) (gp_some (xs := l) (i := (j : Int)) (by omega) (by omega))
              have hH := hH.subrd 901 rfl 2000 hfr2_0 (fun _ h => h)
              have hH := hH.subrd 901 rfl 2001 hfr2_1 (fun _ h => h)
              have hH := hH.subcel 901 rfl 2500 hf2_0 (Rd.inok ((hH.rd 901 rfl)) (by omega) _)
              have hH := hH.subcel 901 rfl 2501 hf2_1 (Rd.inok ((hH.rd 901 rfl)) (by omega) _)
              have hsj := hsm j (by omega)
              obtain ⟨q, hq1, hq2, hq3, hq4, hq5⟩ := safe_at (by omega) hsm hperm2 hperm3 (j := j) (by omega)
              have hlb : (((((gb (gp l (j : Int)) 0) ++ (gb (gp l (j : Int)) 1)).take q.toNat).length : Nat) : Int) = q := by rw [List.length_take]; omega
              refine l_at hF rfl rfl rfl (x_move (hF.tmp 10 rfl)) ?_; clear hF; intro a hF
              refine l_at hF rfl rfl rfl (x_move (hF.tmp 12 rfl)) ?_; clear hF; intro a hF
              refine l_at hF rfl rfl rfl (x_mul rfl (hF.tmp 110 rfl) (w64 (by omega) (by omega))) ?_; clear hF; intro a hF
              refine wpList_plain rfl fun K hK => ?_
              refine w_call hF (x_enter Try.func23 (by kernel_rfl) rfl (by simp only [List.map_toArray, List.map_cons, List.map_nil, hF.tmp 109 rfl, hF.tmp 111 rfl] <;> rfl)) (read_calls _ hD2 (it_ok hH 80 rfl) (3 * (j : Int)) (fun i => by have := (hinv2.get i).2.2; omega)) rfl rfl ?_
              rintro _ w ⟨vr112, rfl, hm_, hr_⟩; refine ⟨_, rfl, ?_⟩; clear hF; intro a hF; have hH := Hp.rowOut hH 112 hm_ hr_; obtain ⟨Ar112, cr112, rfl⟩ := (hH.row 112 rfl).form
              refine hK _ _ ?_; clear hK K
              rw [hq3] at hF
              rw [hq3] at hH
              refine l_at hF rfl rfl rfl (x_move (hF.tmp 112 rfl)) ?_; clear hF; intro a hF
              refine l_at hF rfl rfl rfl (x_extract (hF.tmp 108 rfl) rfl) ?_; clear hF; intro a hF
              refine l_at hF rfl rfl rfl (x_extract (hF.tmp 108 rfl) rfl) ?_; clear hF; intro a hF
              refine l_at hF rfl rfl rfl (x_assign (hF.tmp 113 rfl)) ?_; clear hF; intro a hF
              refine l_at hF rfl rfl rfl (x_assign (hF.tmp 114 rfl)) ?_; clear hF; intro a hF
              refine wpList_nil ?_
              refine hK30 _ _ ?_
              refine wp_seq_k fun khK31 hK31 => ?_
              refine wp_region_lit ?_
              refine l_at hF rfl rfl rfl (x_move (hF.tmp 11 rfl)) ?_; clear hF; intro a hF
              refine l_at hF rfl rfl rfl (x_move (hF.tmp 12 rfl)) ?_; clear hF; intro a hF
              refine l_at hF rfl rfl rfl (x_mul rfl (hF.tmp 117 rfl) (w64 (by omega) (by omega))) ?_; clear hF; intro a hF
              refine wpList_plain rfl fun K hK => ?_
              refine w_call hF (x_enter Try.func23 (by kernel_rfl) rfl (by simp only [List.map_toArray, List.map_cons, List.map_nil, hF.tmp 116 rfl, hF.tmp 118 rfl] <;> rfl)) (read_calls _ hD3 (it_ok hH 81 rfl) (3 * (j : Int)) (fun i => by have := (hinv3.get i).2.2; omega)) rfl rfl ?_
              rintro _ w ⟨vr119, rfl, hm_, hr_⟩; refine ⟨_, rfl, ?_⟩; clear hF; intro a hF; have hH := Hp.rowOut hH 119 hm_ hr_; obtain ⟨Ar119, cr119, rfl⟩ := (hH.row 119 rfl).form
              refine hK _ _ ?_; clear hK K
              rw [hq5] at hF
              rw [hq5] at hH
              refine l_at hF rfl rfl rfl (x_move (hF.tmp 119 rfl)) ?_; clear hF; intro a hF
              refine l_at hF rfl rfl rfl (x_extract (hF.tmp 115 rfl) rfl) ?_; clear hF; intro a hF
              refine l_at hF rfl rfl rfl (x_extract (hF.tmp 115 rfl) rfl) ?_; clear hF; intro a hF
              refine l_at hF rfl rfl rfl (x_assign (hF.tmp 120 rfl)) ?_; clear hF; intro a hF
              refine l_at hF rfl rfl rfl (x_assign (hF.tmp 121 rfl)) ?_; clear hF; intro a hF
              refine wpList_nil ?_
              refine hK31 _ _ ?_
              refine wp_seq_k fun khK32 hK32 => ?_
              refine r_start [(901, .rd_ P2 Al l cl (fun k => k < w0.heap.size)), (2500, .cel (adr Al ((j : Int).toNat * 2)) (.slice fA2_0 (gb (gp l (j : Int)) 0).length fc2_0)), (2501, .cel (adr Al ((j : Int).toNat * 2 + 1)) (.slice fA2_1 (gb (gp l (j : Int)) 1).length fc2_1)), (2000, .rd_ (.int .u8) (fA2_0) (gb (gp l (j : Int)) 0) fc2_0 (fun k => k < w0.heap.size)), (2001, .rd_ (.int .u8) (fA2_1) (gb (gp l (j : Int)) 1) fc2_1 (fun k => k < w0.heap.size))] (by kernel_rfl) hH fun hH => ?_
              have hS : SL [(901, .rd_ P2 Al l cl (fun k => k < w0.heap.size)), (2500, .cel (adr Al ((j : Int).toNat * 2)) (.slice fA2_0 (gb (gp l (j : Int)) 0).length fc2_0)), (2501, .cel (adr Al ((j : Int).toNat * 2 + 1)) (.slice fA2_1 (gb (gp l (j : Int)) 1).length fc2_1)), (2000, .rd_ (.int .u8) (fA2_0) (gb (gp l (j : Int)) 0) fc2_0 (fun k => k < w0.heap.size)), (2001, .rd_ (.int .u8) (fA2_1) (gb (gp l (j : Int)) 1) fc2_1 (fun k => k < w0.heap.size))] _ := SL.of hH (sub_cons (sub_cons (sub_cons (sub_cons (sub_cons (sub_nil _) 2001 rfl) 2000 rfl) 2501 rfl) 2500 rfl) 901 rfl)
              refine r_take 0 hF rfl rfl rfl (by kernel_rfl) (by kernel_rfl) (by kernel_rfl) (fun _ _ _ h => h) rfl hS (fun w hS => x_move (hF.tmp 0 rfl)) rfl ?_; clear hF; intro a hF
              refine r_take 1 hF rfl rfl rfl (by kernel_rfl) (by kernel_rfl) (by kernel_rfl) (fun _ _ _ h => h) rfl hS (fun w hS => x_move (hF.tmp 12 rfl)) rfl ?_; clear hF; intro a hF
              refine r_take 2 hF rfl rfl rfl (by kernel_rfl) (by kernel_rfl) (by kernel_rfl) (fun _ _ _ h => h) rfl hS (fun w hS => x_iaddr_A Try.underlying50 ty51 ((hH.rd 901 rfl)) (hF.tmp 122 rfl) (hF.tmp 123 rfl) (by omega) (by omega) _) rfl ?_; clear hF; intro a hF
              refine r_take 3 hF rfl rfl rfl (by kernel_rfl) (by kernel_rfl) (by kernel_rfl) (fun _ _ _ h => h) rfl hS (fun w hS => x_iaddrA ((SL.rd hS 901 rfl)) (by omega) _ Try.underlying51 ty42 (hF.tmp 124 rfl) rfl (by decide) (by decide) rfl) rfl ?_; clear hF; intro a hF
              refine r_take 4 hF rfl rfl rfl (by kernel_rfl) (by kernel_rfl) (by kernel_rfl) (fun _ _ _ h => h) rfl hS (fun w hS => x_load1 ty42 (hF.tmp 125 rfl) (hS 2500 _ rfl)) rfl ?_; clear hF; intro a hF
              refine r_take 5 hF rfl rfl rfl (by kernel_rfl) (by kernel_rfl) (by kernel_rfl) (fun _ _ _ h => h) rfl hS (fun w hS => x_b2s Try.underlying42 Try.underlying5 Try.underlying9 ((SL.rd hS 2000 rfl)) (hF.tmp 126 rfl)) rfl ?_; clear hF; intro a hF
              refine r_take 6 hF rfl rfl rfl (by kernel_rfl) (by kernel_rfl) (by kernel_rfl) (fun _ _ _ h => h) rfl hS (fun w hS => x_move (hF.tmp 0 rfl)) rfl ?_; clear hF; intro a hF
              refine r_take 7 hF rfl rfl rfl (by kernel_rfl) (by kernel_rfl) (by kernel_rfl) (fun _ _ _ h => h) rfl hS (fun w hS => x_move (hF.tmp 12 rfl)) rfl ?_; clear hF; intro a hF
              refine r_take 8 hF rfl rfl rfl (by kernel_rfl) (by kernel_rfl) (by kernel_rfl) (fun _ _ _ h => h) rfl hS (fun w hS => x_iaddr_A Try.underlying50 ty51 ((hH.rd 901 rfl)) (hF.tmp 128 rfl) (hF.tmp 129 rfl) (by omega) (by omega) _) rfl ?_; clear hF; intro a hF
              refine r_take 9 hF rfl rfl rfl (by kernel_rfl) (by kernel_rfl) (by kernel_rfl) (fun _ _ _ h => h) rfl hS (fun w hS => x_iaddrA ((SL.rd hS 901 rfl)) (by omega) _ Try.underlying51 ty42 (hF.tmp 130 rfl) rfl (by decide) (by decide) rfl) rfl ?_; clear hF; intro a hF
              refine r_take 10 hF rfl rfl rfl (by kernel_rfl) (by kernel_rfl) (by kernel_rfl) (fun _ _ _ h => h) rfl hS (fun w hS => x_load1 ty42 (hF.tmp 131 rfl) (hS 2501 _ rfl)) rfl ?_; clear hF; intro a hF
              refine r_take 11 hF rfl rfl rfl (by kernel_rfl) (by kernel_rfl) (by kernel_rfl) (fun _ _ _ h => h) rfl hS (fun w hS => x_b2s Try.underlying42 Try.underlying5 Try.underlying9 ((SL.rd hS 2001 rfl)) (hF.tmp 132 rfl)) rfl ?_; clear hF; intro a hF
              refine r_take 12 hF rfl rfl rfl (by kernel_rfl) (by kernel_rfl) (by kernel_rfl) (fun _ _ _ h => h) rfl hS (fun w hS => x_adds (xs := (gb (gp l (j : Int)) 0)) (ys := (gb (gp l (j : Int)) 1)) (hF.tmp 127 rfl) (hF.tmp 133 rfl) (by omega)) rfl ?_; clear hF; intro a hF
              refine r_take 13 hF rfl rfl rfl (by kernel_rfl) (by kernel_rfl) (by kernel_rfl) (fun _ _ _ h => h) rfl hS (fun w hS => x_assign (hF.tmp 134 rfl)) rfl ?_; clear hF; intro a hF
              refine r_end (by kernel_rfl) ?_; clear hS
              refine hK32 _ _ ?_
              refine wp_seq_k fun khK33 hK33 => ?_
              refine r_start [(112, .row (.int .u8) 5 (.slice Ar112 (((gb (gp l (j : Int)) 0) ++ (gb (gp l (j : Int)) 1)).take q.toNat).length cr112) (((gb (gp l (j : Int)) 0) ++ (gb (gp l (j : Int)) 1)).take q.toNat) (fun _ => False)), (119, .row (.int .u8) 5 (.slice Ar119 (((gb (gp l (j : Int)) 0) ++ (gb (gp l (j : Int)) 1)).take q.toNat).length cr119) (((gb (gp l (j : Int)) 0) ++ (gb (gp l (j : Int)) 1)).take q.toNat) (fun _ => False)), (901, .rd_ P2 Al l cl (fun k => k < w0.heap.size)), (2500, .cel (adr Al ((j : Int).toNat * 2)) (.slice fA2_0 (gb (gp l (j : Int)) 0).length fc2_0))] (by kernel_rfl) hH fun hH => ?_
              have hS : SL [(112, .row (.int .u8) 5 (.slice Ar112 (((gb (gp l (j : Int)) 0) ++ (gb (gp l (j : Int)) 1)).take q.toNat).length cr112) (((gb (gp l (j : Int)) 0) ++ (gb (gp l (j : Int)) 1)).take q.toNat) (fun _ => False)), (119, .row (.int .u8) 5 (.slice Ar119 (((gb (gp l (j : Int)) 0) ++ (gb (gp l (j : Int)) 1)).take q.toNat).length cr119) (((gb (gp l (j : Int)) 0) ++ (gb (gp l (j : Int)) 1)).take q.toNat) (fun _ => False)), (901, .rd_ P2 Al l cl (fun k => k < w0.heap.size)), (2500, .cel (adr Al ((j : Int).toNat * 2)) (.slice fA2_0 (gb (gp l (j : Int)) 0).length fc2_0))] _ := SL.of hH (sub_cons (sub_cons (sub_cons (sub_cons (sub_nil _) 2500 rfl) 901 rfl) 119 rfl) 112 rfl)
              refine r_take 0 hF rfl rfl rfl (by kernel_rfl) (by kernel_rfl) (by kernel_rfl) (fun _ _ _ h => h) rfl hS (fun w hS => x_move (hF.tmp 13 rfl)) rfl ?_; clear hF; intro a hF
              refine r_take 1 hF rfl rfl rfl (by kernel_rfl) (by kernel_rfl) (by kernel_rfl) (fun _ _ _ h => h) rfl hS (fun w hS => x_len_slice Try.underlying42 (hF.tmp 135 rfl)) rfl ?_; clear hF; intro a hF
              refine r_take 2 hF rfl rfl rfl (by kernel_rfl) (by kernel_rfl) (by kernel_rfl) (fun _ _ _ h => h) rfl hS (fun w hS => x_move (hF.tmp 0 rfl)) rfl ?_; clear hF; intro a hF
              refine r_take 3 hF rfl rfl rfl (by kernel_rfl) (by kernel_rfl) (by kernel_rfl) (fun _ _ _ h => h) rfl hS (fun w hS => x_move (hF.tmp 12 rfl)) rfl ?_; clear hF; intro a hF
              refine r_take 4 hF rfl rfl rfl (by kernel_rfl) (by kernel_rfl) (by kernel_rfl) (fun _ _ _ h => h) rfl hS (fun w hS => x_iaddr_A Try.underlying50 ty51 ((hH.rd 901 rfl)) (hF.tmp 137 rfl) (hF.tmp 138 rfl) (by omega) (by omega) _) rfl ?_; clear hF; intro a hF
              refine r_take 5 hF rfl rfl rfl (by kernel_rfl) (by kernel_rfl) (by kernel_rfl) (fun _ _ _ h => h) rfl hS (fun w hS => x_iaddrA ((SL.rd hS 901 rfl)) (by omega) _ Try.underlying51 ty42 (hF.tmp 139 rfl) rfl (by decide) (by decide) rfl) rfl ?_; clear hF; intro a hF
              refine r_take 6 hF rfl rfl rfl (by kernel_rfl) (by kernel_rfl) (by kernel_rfl) (fun _ _ _ h => h) rfl hS (fun w hS => x_load1 ty42 (hF.tmp 140 rfl) (hS 2500 _ rfl)) rfl ?_; clear hF; intro a hF
              refine r_take 7 hF rfl rfl rfl (by kernel_rfl) (by kernel_rfl) (by kernel_rfl) (fun _ _ _ h => h) rfl hS (fun w hS => x_len_slice Try.underlying42 (hF.tmp 141 rfl)) rfl ?_; clear hF; intro a hF
              refine r_take 8 hF rfl rfl rfl (by kernel_rfl) (by kernel_rfl) (by kernel_rfl) (fun _ _ _ h => h) rfl hS (fun w hS => x_lss (hF.tmp 136 rfl) (hF.tmp 142 rfl)) rfl ?_; clear hF; intro a hF
              rw [show ((decide (((((gb (gp l (j : Int)) 0) ++ (gb (gp l (j : Int)) 1)).take q.toNat).length : Int) < ((gb (gp l (j : Int)) 0).length : Int)))) = false by exact decide_eq_false (by omega)] at hF
              refine r_take 9 hF rfl rfl rfl (by kernel_rfl) (by kernel_rfl) (by kernel_rfl) (fun _ _ _ h => h) rfl hS (fun w hS => x_move (hF.tmp 143 rfl)) rfl ?_; clear hF; intro a hF
              refine r_take 10 hF rfl rfl rfl (by kernel_rfl) (by kernel_rfl) (by kernel_rfl) (fun _ _ _ h => h) ((wanted_of hF rfl rfl rfl rfl).trans rfl) hS (fun w hS => x_move (hF.tmp 13 rfl)) rfl ?_; clear hF; intro a hF
              refine r_take 11 hF rfl rfl rfl (by kernel_rfl) (by kernel_rfl) (by kernel_rfl) (fun _ _ _ h => h) ((wanted_of hF rfl rfl rfl rfl).trans rfl) hS (fun w hS => x_len_slice Try.underlying42 (hF.tmp 145 rfl)) rfl ?_; clear hF; intro a hF
              refine r_take 12 hF rfl rfl rfl (by kernel_rfl) (by kernel_rfl) (by kernel_rfl) (fun _ _ _ h => h) ((wanted_of hF rfl rfl rfl rfl).trans rfl) hS (fun w hS => x_move (hF.tmp 17 rfl)) rfl ?_; clear hF; intro a hF
              refine r_take 13 hF rfl rfl rfl (by kernel_rfl) (by kernel_rfl) (by kernel_rfl) (fun _ _ _ h => h) ((wanted_of hF rfl rfl rfl rfl).trans rfl) hS (fun w hS => x_len_sn (xs := ((gb (gp l (j : Int)) 0) ++ (gb (gp l (j : Int)) 1))) Try.underlying9 (hF.tmp 147 rfl)) rfl ?_; clear hF; intro a hF
              refine r_take 14 hF rfl rfl rfl (by kernel_rfl) (by kernel_rfl) (by kernel_rfl) (fun _ _ _ h => h) ((wanted_of hF rfl rfl rfl rfl).trans rfl) hS (fun w hS => x_gtr (hF.tmp 146 rfl) (hF.tmp 148 rfl)) rfl ?_; clear hF; intro a hF
              rw [show ((decide ((((gb (gp l (j : Int)) 0) ++ (gb (gp l (j : Int)) 1)).length : Int) < ((((gb (gp l (j : Int)) 0) ++ (gb (gp l (j : Int)) 1)).take q.toNat).length : Int)))) = false by exact decide_eq_false (by omega)] at hF
              refine r_take 15 hF rfl rfl rfl (by kernel_rfl) (by kernel_rfl) (by kernel_rfl) (fun _ _ _ h => h) rfl hS (fun w hS => x_pickF (hF.tmp 144 rfl) rfl (hF.tmp 149 rfl)) rfl ?_; clear hF; intro a hF
              refine r_take 16 hF rfl rfl rfl (by kernel_rfl) (by kernel_rfl) (by kernel_rfl) (fun _ _ _ h => h) rfl hS (fun w hS => x_move (hF.tmp 150 rfl)) rfl ?_; clear hF; intro a hF
              refine r_take 17 hF rfl rfl rfl (by kernel_rfl) (by kernel_rfl) (by kernel_rfl) (fun _ _ _ h => h) ((wanted_of hF rfl rfl rfl rfl).trans rfl) hS (fun w hS => x_move (hF.tmp 13 rfl)) rfl ?_; clear hF; intro a hF
              refine r_take 18 hF rfl rfl rfl (by kernel_rfl) (by kernel_rfl) (by kernel_rfl) (fun _ _ _ h => h) ((wanted_of hF rfl rfl rfl rfl).trans rfl) hS (fun w hS => x_b2s Try.underlying42 Try.underlying5 Try.underlying9 (Row.rd (ok' := fun k_ => (fun _ => False) k_ ∨ (.slice Ar112 (((gb (gp l (j : Int)) 0) ++ (gb (gp l (j : Int)) 1)).take q.toNat).length cr112 : Value).ownBlock = some k_) (SL.row hS 112 rfl) (fun _ hk_ _ => .inl hk_) (fun _ hk_ => .inr hk_)) (hF.tmp 152 rfl)) rfl ?_; clear hF; intro a hF
              refine r_take 19 hF rfl rfl rfl (by kernel_rfl) (by kernel_rfl) (by kernel_rfl) (fun _ _ _ h => h) ((wanted_of hF rfl rfl rfl rfl).trans rfl) hS (fun w hS => x_move (hF.tmp 17 rfl)) rfl ?_; clear hF; intro a hF
              refine r_take 20 hF rfl rfl rfl (by kernel_rfl) (by kernel_rfl) (by kernel_rfl) (fun _ _ _ h => h) ((wanted_of hF rfl rfl rfl rfl).trans rfl) hS (fun w hS => x_move (hF.tmp 13 rfl)) rfl ?_; clear hF; intro a hF
              refine r_take 21 hF rfl rfl rfl (by kernel_rfl) (by kernel_rfl) (by kernel_rfl) (fun _ _ _ h => h) ((wanted_of hF rfl rfl rfl rfl).trans rfl) hS (fun w hS => x_len_slice Try.underlying42 (hF.tmp 155 rfl)) rfl ?_; clear hF; intro a hF
              refine r_take 22 hF rfl rfl rfl (by kernel_rfl) (by kernel_rfl) (by kernel_rfl) (fun _ _ _ h => h) ((wanted_of hF rfl rfl rfl rfl).trans rfl) hS (fun w hS => x_sliceS (xs := ((gb (gp l (j : Int)) 0) ++ (gb (gp l (j : Int)) 1))) Try.underlying9 (hF.tmp 154 rfl) (hF.tmp 156 rfl) (by omega) (by omega)) rfl ?_; clear hF; intro a hF
              refine r_take 23 hF rfl rfl rfl (by kernel_rfl) (by kernel_rfl) (by kernel_rfl) (fun _ _ _ h => h) ((wanted_of hF rfl rfl rfl rfl).trans rfl) hS (fun w hS => x_nes (hF.tmp 153 rfl) (hF.tmp 157 rfl)) rfl ?_; clear hF; intro a hF
              rw [show ((!decide ((strOfNums (((gb (gp l (j : Int)) 0) ++ (gb (gp l (j : Int)) 1)).take q.toNat)) = (strOfNums (((gb (gp l (j : Int)) 0) ++ (gb (gp l (j : Int)) 1)).take ((((gb (gp l (j : Int)) 0) ++ (gb (gp l (j : Int)) 1)).take q.toNat).length : Int).toNat))))) = false by rw [hlb, decide_eq_true rfl]; rfl] at hF
              refine r_take 24 hF rfl rfl rfl (by kernel_rfl) (by kernel_rfl) (by kernel_rfl) (fun _ _ _ h => h) rfl hS (fun w hS => x_pickF (hF.tmp 151 rfl) rfl (hF.tmp 158 rfl)) rfl ?_; clear hF; intro a hF
              refine r_take 25 hF rfl rfl rfl (by kernel_rfl) (by kernel_rfl) (by kernel_rfl) (fun _ _ _ h => h) rfl hS (fun w hS => x_move (hF.tmp 159 rfl)) rfl ?_; clear hF; intro a hF
              refine r_take 26 hF rfl rfl rfl (by kernel_rfl) (by kernel_rfl) (by kernel_rfl) (fun _ _ _ h => h) ((wanted_of hF rfl rfl rfl rfl).trans rfl) hS (fun w hS => x_move (hF.tmp 15 rfl)) rfl ?_; clear hF; intro a hF
              refine r_take 27 hF rfl rfl rfl (by kernel_rfl) (by kernel_rfl) (by kernel_rfl) (fun _ _ _ h => h) ((wanted_of hF rfl rfl rfl rfl).trans rfl) hS (fun w hS => x_b2s Try.underlying42 Try.underlying5 Try.underlying9 (Row.rd (ok' := fun k_ => (fun _ => False) k_ ∨ (.slice Ar119 (((gb (gp l (j : Int)) 0) ++ (gb (gp l (j : Int)) 1)).take q.toNat).length cr119 : Value).ownBlock = some k_) (SL.row hS 119 rfl) (fun _ hk_ _ => .inl hk_) (fun _ hk_ => .inr hk_)) (hF.tmp 161 rfl)) rfl ?_; clear hF; intro a hF
              refine r_take 28 hF rfl rfl rfl (by kernel_rfl) (by kernel_rfl) (by kernel_rfl) (fun _ _ _ h => h) ((wanted_of hF rfl rfl rfl rfl).trans rfl) hS (fun w hS => x_move (hF.tmp 13 rfl)) rfl ?_; clear hF; intro a hF
              refine r_take 29 hF rfl rfl rfl (by kernel_rfl) (by kernel_rfl) (by kernel_rfl) (fun _ _ _ h => h) ((wanted_of hF rfl rfl rfl rfl).trans rfl) hS (fun w hS => x_b2s Try.underlying42 Try.underlying5 Try.underlying9 (Row.rd (ok' := fun k_ => (fun _ => False) k_ ∨ (.slice Ar112 (((gb (gp l (j : Int)) 0) ++ (gb (gp l (j : Int)) 1)).take q.toNat).length cr112 : Value).ownBlock = some k_) (SL.row hS 112 rfl) (fun _ hk_ _ => .inl hk_) (fun _ hk_ => .inr hk_)) (hF.tmp 163 rfl)) rfl ?_; clear hF; intro a hF
              refine r_take 30 hF rfl rfl rfl (by kernel_rfl) (by kernel_rfl) (by kernel_rfl) (fun _ _ _ h => h) ((wanted_of hF rfl rfl rfl rfl).trans rfl) hS (fun w hS => x_nes (hF.tmp 162 rfl) (hF.tmp 164 rfl)) rfl ?_; clear hF; intro a hF
              rw [show ((!decide ((strOfNums (((gb (gp l (j : Int)) 0) ++ (gb (gp l (j : Int)) 1)).take q.toNat)) = (strOfNums (((gb (gp l (j : Int)) 0) ++ (gb (gp l (j : Int)) 1)).take q.toNat))))) = false by rw [decide_eq_true rfl]; rfl] at hF
              refine r_take 31 hF rfl rfl rfl (by kernel_rfl) (by kernel_rfl) (by kernel_rfl) (fun _ _ _ h => h) rfl hS (fun w hS => x_pickF (hF.tmp 160 rfl) rfl (hF.tmp 165 rfl)) rfl ?_; clear hF; intro a hF
              refine r_take 32 hF rfl rfl rfl (by kernel_rfl) (by kernel_rfl) (by kernel_rfl) (fun _ _ _ h => h) rfl hS (fun w hS => x_move (hF.tmp 166 rfl)) rfl ?_; clear hF; intro a hF
              refine r_take 33 hF rfl rfl rfl (by kernel_rfl) (by kernel_rfl) (by kernel_rfl) (fun _ _ _ h => h) ((wanted_of hF rfl rfl rfl rfl).trans rfl) hS (fun w hS => x_move (hF.tmp 10 rfl)) rfl ?_; clear hF; intro a hF
              refine r_take 34 hF rfl rfl rfl (by kernel_rfl) (by kernel_rfl) (by kernel_rfl) (fun _ _ _ h => h) ((wanted_of hF rfl rfl rfl rfl).trans rfl) hS (fun w hS => x_move (hF.tmp 12 rfl)) rfl ?_; clear hF; intro a hF
              refine r_take 35 hF rfl rfl rfl (by kernel_rfl) (by kernel_rfl) (by kernel_rfl) (fun _ _ _ h => h) ((wanted_of hF rfl rfl rfl rfl).trans rfl) hS (fun w hS => x_mul rfl (hF.tmp 169 rfl) (w64 (by omega) (by omega))) rfl ?_; clear hF; intro a hF
              refine r_take 37 hF rfl rfl rfl (by kernel_rfl) (by kernel_rfl) (by kernel_rfl) (fun _ _ _ h => h) ((wanted_of hF rfl rfl rfl rfl).trans rfl) hS (fun w hS => x_move (hF.tmp 13 rfl)) rfl ?_; clear hF; intro a hF
              refine r_take 38 hF rfl rfl rfl (by kernel_rfl) (by kernel_rfl) (by kernel_rfl) (fun _ _ _ h => h) ((wanted_of hF rfl rfl rfl rfl).trans rfl) hS (fun w hS => x_len_slice Try.underlying42 (hF.tmp 172 rfl)) rfl ?_; clear hF; intro a hF
              refine r_do 36 rfl (by kernel_rfl) ((wanted_of hF rfl rfl rfl rfl).trans rfl) rfl ?_
              refine w_call hF (x_enter Try.func26 (by kernel_rfl) rfl (by simp only [List.map_toArray, List.map_cons, List.map_nil, hF.tmp 168 rfl, hF.tmp 170 rfl] <;> rfl)) (safe_calls _ hD2 (it_ok hH 80 rfl) (3 * (j : Int))) rfl rfl ?_
              rintro _ w ⟨rfl, hm_⟩; refine ⟨_, rfl, ?_⟩; clear hF; intro a hF; have hH := hH.same hm_
              clear hS; have hS : SL _ _ := SL.of hH (sub_cons (sub_cons (sub_cons (sub_cons (sub_nil _) 2500 rfl) 901 rfl) 119 rfl) 112 rfl); refine ⟨hS, ?_⟩
              refine r_take 39 hF rfl rfl rfl (by kernel_rfl) (by kernel_rfl) (by kernel_rfl) (fun _ _ _ h => h) ((wanted_of hF rfl rfl rfl rfl).trans rfl) hS (fun w hS => x_neq (hF.tmp 171 rfl) (hF.tmp 173 rfl)) rfl ?_; clear hF; intro a hF
              rw [show ((!decide (((getM mo2 (3 * (j : Int))).2) = ((((gb (gp l (j : Int)) 0) ++ (gb (gp l (j : Int)) 1)).take q.toNat).length : Int)))) = false by rw [hq4, hlb, decide_eq_true rfl]; rfl] at hF
              refine r_take 40 hF rfl rfl rfl (by kernel_rfl) (by kernel_rfl) (by kernel_rfl) (fun _ _ _ h => h) rfl hS (fun w hS => x_pickF (hF.tmp 167 rfl) rfl (hF.tmp 174 rfl)) rfl ?_; clear hF; intro a hF
              refine r_end (by kernel_rfl) ?_; clear hS
              refine hK33 _ _ ?_
              refine wp_cond_false (hF.tmp 175 rfl) ?_
              refine wp_skip ?_
              refine hK29 _ _ ?_
              refine wp_region_lit ?_
              refine l_at hF rfl rfl rfl (x_move (hF.tmp 12 rfl)) ?_; clear hF; intro a hF
              refine l_at hF rfl rfl rfl (x_add (hF.tmp 106 rfl) rfl (w64 (by omega) (by omega))) ?_; clear hF; intro a hF
              refine l_at hF rfl rfl rfl (x_assign (hF.tmp 107 rfl)) ?_; clear hF; intro a hF
              refine wpList_nil ?_
              exact ⟨_, by omega, ⟨j + 1, rfl, by omega, ((((hF.bare.add hF 12 rfl).add hF 11 rfl).add hF 10 rfl).add hF 0 rfl), hH.sub _ (sub_cons (sub_cons (sub_cons (sub_cons (sub_cons (sub_cons (sub_nil _) 81 rfl) 80 rfl) 70 rfl) 903 rfl) 902 rfl) 901 rfl)⟩⟩
            · try simp only [Bool.or_eq_true, Bool.and_eq_true, Bool.or_eq_false_iff, Bool.and_eq_false_iff, Bool.not_eq_true', Bool.not_eq_false', decide_eq_true_eq, decide_eq_false_iff_not, Bool.not_true, Bool.not_false] at hc105
              refine wp_exit ?_
              refine hK25 _ _ ?_
              refine wp_seq_k fun khK34 hK34 => ?_
              refine wp_region_lit ?_
              refine wpList_plain rfl fun K hK => ?_
              refine w_call hF (x_enter Try.func21 (by kernel_rfl) rfl (by simp only [List.map_toArray, List.map_cons, List.map_nil] <;> rfl)) (alive_calls _) rfl rfl ?_
              rintro _ w ⟨rfl, hm_⟩; refine ⟨_, rfl, ?_⟩; clear hF; intro a hF; have hH := hH.same hm_
              refine hK _ _ ?_; clear hK K
              refine l_at hF rfl rfl rfl (x_assign (hF.tmp 176 rfl)) ?_; clear hF; intro a hF
              refine wpList_nil ?_
              refine hK34 _ _ ?_
              refine wp_ret ?_
              try simp only [Exit.then, Exit.inBlock]
              exact fin_ret hF (res1 hF rfl rfl) ⟨rfl, hH.mods⟩

end Go.Proofs.Ytkocinnoncacgaa.Dsk
