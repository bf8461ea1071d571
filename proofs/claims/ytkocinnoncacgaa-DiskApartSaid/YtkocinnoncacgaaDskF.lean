/- Segments are apart, walked. -/
import Derived.Test.YtkocinnoncacgaaDskE
set_option linter.unusedVariables false
set_option linter.unusedSimpArgs false
namespace Go.Proofs.Ytkocinnoncacgaa.Dsk
open Go.RowKit Go.Proofs.Ytkocinnoncacgaa.Sx
theorem ty9 : TyI Try.prog 9 (.string ⟨#[]⟩) 1 16 false := ⟨by kernel_rfl, _, Try.underlying9, rfl⟩
theorem ty63 : TyI Try.prog 63 (.agg #[.int .i64 0, .int .i64 0, .int .i64 0, .slice none 0 0, .slice none 0 0]) 5 72 true := ⟨by kernel_rfl, _, Try.underlying63, rfl⟩
set_option maxRecDepth 100000 in
set_option maxHeartbeats 1000000 in
theorem apart_calls (w0 : World) {ok ok2 : Nat → Prop} {As Ab Ak : Option Addr} {script : List ActD} {cs cb mk ck : Nat} {bs : List Int} (kd n q : Int) (hrs : Rd ActE w0 ok As script cs) (hrb : Rd (.int .u8) w0 ok2 Ab bs cb) : Calls Try.prog 7 #[.slice As script.length cs, .agg #[.int .i64 kd, .int .i64 n, .int .i64 q, .slice Ab bs.length cb, .slice Ak mk ck]] w0 fun e w' => e = .returned (.bool true) ∧ Mods (fun _ => False) w0 w' := by
  refine calls_of_wp Try.func7 rfl ?_
  have hF := Fr.enter #[.slice As script.length cs, .agg #[.int .i64 kd, .int .i64 n, .int .i64 q, .slice Ab bs.length cb, .slice Ak mk ck]] 183 (slotsOf [.slice As script.length cs, .agg #[.int .i64 kd, .int .i64 n, .int .i64 q, .slice Ab bs.length cb, .slice Ak mk ck]] 0) (Nat.le_of_ble_eq_true rfl) (fun i v h => by have h2 := (get_slotsOf _ 0 i v h).2; simpa only [List.getElem?_toArray, Nat.sub_zero] using h2)
  have hH := Hp.nil (fun _ => False) w0
  rw [Try.ntmps7]
  revert hF; generalize (⟨(#[.slice As script.length cs, .agg #[.int .i64 kd, .int .i64 n, .int .i64 q, .slice Ab bs.length cb, .slice Ak mk ck]] : Array Value) ++ Array.replicate (183 - (#[.slice As script.length cs, .agg #[.int .i64 kd, .int .i64 n, .int .i64 q, .slice Ab bs.length cb, .slice Ak mk ck]] : Array Value).size) undef, []⟩ : Act) = a; intro hF
  have hH := hH.arg 901 hrs.all (fun _ h => ⟨h, fun h => h⟩)
  have hles := hrs.le; unfold maxLen at hles
  have hH := hH.arg 902 hrb.all (fun _ h => ⟨h, fun h => h⟩)
  have hleb := hrb.le; unfold maxLen at hleb
  refine wp_seq_k fun khK1 hK1 => ?_
  refine wp_region_lit ?_
  refine wpList_plain rfl fun K hK => ?_
  refine w_box 3 hF hH rfl (hF.tmp 1 rfl) ?_
  clear hF hH; intro a w b3 hF hH
  refine hK _ _ ?_; clear hK K
  refine l_at hF rfl rfl rfl (x_assign rfl) ?_; clear hF; intro a hF
  refine wpList_nil ?_
  refine hK1 _ _ ?_
  refine wp_seq_k fun khK2 hK2 => ?_
  refine wp_region_lit ?_
  refine wpList_plain rfl fun K hK => ?_
  refine w_call hF (x_enter Try.func20 (by kernel_rfl) rfl (by simp only [List.map_toArray, List.map_cons, List.map_nil] <;> rfl)) (new_calls _) rfl rfl ?_
  rintro _ w ⟨bd1, X1, rfl, hD1, hok_, hm_, hn_, hr_⟩; refine ⟨_, rfl, ?_⟩; clear hF; intro a hF; have hH := hH.newX 70 hm_ hok_ hn_ (fun k h => (hr_ k h).elim)
  refine hK _ _ ?_; clear hK K
  refine l_at hF rfl rfl rfl (x_assign (hF.tmp 16 rfl)) ?_; clear hF; intro a hF
  refine wpList_nil ?_
  refine hK2 _ _ ?_
  refine wp_seq_k fun khK3 hK3 => ?_
  refine wp_seq_k fun khK4 hK4 => ?_
  refine wp_region_lit ?_
  refine l_at hF rfl rfl rfl (x_move (hF.tmp 5 rfl)) ?_; clear hF; intro a hF
  refine l_at hF rfl rfl rfl (x_ptrnil Try.underlying40 (hF.tmp 17 rfl) rfl) ?_; clear hF; intro a hF
  refine l_at hF rfl rfl rfl (x_move (hF.tmp 18 rfl)) ?_; clear hF; intro a hF
  refine l_atg hF ((wanted_of hF rfl rfl rfl rfl).trans rfl) rfl rfl (x_faddr Try.underlying63 rfl ty42 (by decide) (hF.tmp 3 rfl) rfl) ?_; clear hF; intro a hF
  refine l_atg hF ((wanted_of hF rfl rfl rfl rfl).trans rfl) rfl rfl (x_load1 ty42 (hF.tmp 20 rfl) (blk_cell (hH.at 3 rfl) 3 rfl)) ?_; clear hF; intro a hF
  refine l_atg hF ((wanted_of hF rfl rfl rfl rfl).trans rfl) rfl rfl (x_len_slice Try.underlying42 (hF.tmp 21 rfl)) ?_; clear hF; intro a hF
  refine l_atg hF ((wanted_of hF rfl rfl rfl rfl).trans rfl) rfl rfl (x_gtr (hF.tmp 22 rfl) rfl) ?_; clear hF; intro a hF
  refine l_at hF rfl rfl rfl (x_pickF (hF.tmp 19 rfl) rfl (hF.tmp 23 rfl)) ?_; clear hF; intro a hF
  refine wpList_nil ?_
  refine hK4 _ _ ?_
  refine wp_cond_split (hF.tmp 24 rfl) (fun hc24 => ?_) (fun hc24 => ?_)
  · try simp only [Bool.or_eq_true, Bool.and_eq_true, Bool.or_eq_false_iff, Bool.and_eq_false_iff, Bool.not_eq_true', Bool.not_eq_false', decide_eq_true_eq, decide_eq_false_iff_not, Bool.not_true, Bool.not_false] at hc24
    refine wp_seq_k fun khK5 hK5 => ?_
    refine wp_region_lit ?_
    refine wpList_plain rfl fun K hK => ?_
    refine w_call hF (x_enter Try.func21 (by kernel_rfl) rfl (by simp only [List.map_toArray, List.map_cons, List.map_nil] <;> rfl)) (alive_calls _) rfl rfl ?_
    rintro _ w ⟨rfl, hm_⟩; refine ⟨_, rfl, ?_⟩; clear hF; intro a hF; have hH := hH.same hm_
    refine hK _ _ ?_; clear hK K
    refine l_at hF rfl rfl rfl (x_assign (hF.tmp 25 rfl)) ?_; clear hF; intro a hF
    refine wpList_nil ?_
    refine hK5 _ _ ?_
    refine wp_ret ?_
    try simp only [Exit.then, Exit.inBlock]
    exact fin_ret hF (res1 hF rfl rfl) ⟨rfl, hH.mods⟩
  · try simp only [Bool.or_eq_true, Bool.and_eq_true, Bool.or_eq_false_iff, Bool.and_eq_false_iff, Bool.not_eq_true', Bool.not_eq_false', decide_eq_true_eq, decide_eq_false_iff_not, Bool.not_true, Bool.not_false] at hc24
    refine wp_skip ?_
    refine hK3 _ _ ?_
    refine wp_seq_k fun khK6 hK6 => ?_
    refine wp_seq_k fun khK7 hK7 => ?_
    refine wp_region_lit ?_
    refine l_at hF rfl rfl rfl (x_assign rfl) ?_; clear hF; intro a hF
    refine wpList_nil ?_
    refine hK7 _ _ ?_
    refine wp_block ?_
    refine wp_loop_ghost (fun n_ a w => ∃ k : Nat, ∃ X_ : Asn, ∃ m : DM, ∃ rt : List Int, n_ = script.length - k ∧ (k ≤ script.length) ∧ (DiskA 106 bd1 m rt X_) ∧ (DInv m) ∧ (rt.length ≤ 1024) ∧ Fr 183 a [(0, .slice As script.length cs), (3, .pointer (some ⟨b3, 0, none⟩)), (5, .pointer (some ⟨bd1, 0, none⟩)), (6, .int .i64 (k : Int))] ∧ Hp (fun _ => False) w0 w [(901, .rd_ ActE As script cs (fun k => k < w0.heap.size)), (902, .rd_ (.int .u8) Ab bs cb (fun k => k < w0.heap.size)), (3, .blk b3 (.cells #[.int .i64 kd, .int .i64 n, .int .i64 q, .slice Ab bs.length cb, .slice Ak mk ck] 63 (0, 0))), (70, X_)]) (script.length) ?_ ?_
    · exact ⟨0, X1, [], [], rfl, by omega, hD1, DInv.nil, by simp, ((((hF.bare.add hF 6 rfl).add hF 5 rfl).add hF 3 rfl).add hF 0 rfl), hH.sub _ (sub_cons (sub_cons (sub_cons (sub_cons (sub_nil _) 70 rfl) 3 rfl) 902 rfl) 901 rfl)⟩
    · rintro _ a w ⟨k, X_, m, rt, rfl, hq0_0, hq0_1, hq0_2, hq0_3, hF, hH⟩
      refine wp_seq_k fun khK8 hK8 => ?_
      refine wp_seq_k fun khK9 hK9 => ?_
      refine wp_region_lit ?_
      refine l_at hF rfl rfl rfl (x_move (hF.tmp 6 rfl)) ?_; clear hF; intro a hF
      refine l_at hF rfl rfl rfl (x_move (hF.tmp 0 rfl)) ?_; clear hF; intro a hF
      refine l_at hF rfl rfl rfl (x_len_slice Try.underlying57 (hF.tmp 27 rfl)) ?_; clear hF; intro a hF
      refine l_at hF rfl rfl rfl (x_lss (hF.tmp 26 rfl) (hF.tmp 28 rfl)) ?_; clear hF; intro a hF
      refine l_at hF rfl rfl rfl (x_move (hF.tmp 29 rfl)) ?_; clear hF; intro a hF
      refine split_bool hF 30 rfl (fun hb30 => ?_) (fun hb30 => ?_)
      · have hc30 := hb30; try simp only [Bool.or_eq_true, Bool.and_eq_true, Bool.or_eq_false_iff, Bool.and_eq_false_iff, Bool.not_eq_true', Bool.not_eq_false', decide_eq_true_eq, decide_eq_false_iff_not, Bool.not_true, Bool.not_false] at hc30
        refine l_atg hF ((wanted_of hF rfl rfl rfl rfl).trans (by rw [hb30]; rfl)) rfl rfl (x_move (hF.tmp 6 rfl)) ?_; clear hF; intro a hF
        refine l_atg hF ((wanted_of hF rfl rfl rfl rfl).trans (by rw [hb30]; rfl)) rfl rfl (x_lss (hF.tmp 31 rfl) rfl) ?_; clear hF; intro a hF
        refine l_at hF rfl rfl rfl (x_pickT (hF.tmp 30 rfl) hb30 (hF.tmp 32 rfl)) ?_; clear hF; intro a hF
        refine wpList_nil ?_
        refine hK9 _ _ ?_
        refine wp_cond_split (hF.tmp 33 rfl) (fun hc33 => ?_) (fun hc33 => ?_)
        · try simp only [Bool.or_eq_true, Bool.and_eq_true, Bool.or_eq_false_iff, Bool.and_eq_false_iff, Bool.not_eq_true', Bool.not_eq_false', decide_eq_true_eq, decide_eq_false_iff_not, Bool.not_true, Bool.not_false] at hc33
          refine wp_skip ?_
          refine hK8 _ _ ?_
          refine wp_seq_k fun khK10 hK10 => ?_
          refine wp_block ?_
          refine wp_seq_k fun khK11 hK11 => ?_
          refine wp_seq_k fun khK12 hK12 => ?_
          refine wp_region_lit ?_
          obtain ⟨fA1_0, fc1_0, fA1_1, fc1_1, hfr1_0, hfr1_1, hf1_0, hf1_1, hf1_2, hf1_3, hf1_4, hfw1⟩ := rd_act ((hH.rd 901 rfl)) (ga_some (xs := script) (i := (k : Int)) (by omega) (by omega))
          have hH := hH.subrd 901 rfl 1003 hfr1_0 (fun _ h => h)
          have hH := hH.subrd 901 rfl 1004 hfr1_1 (fun _ h => h)
          have hH := hH.subcel 901 rfl 1500 hf1_0 (Rd.inok ((hH.rd 901 rfl)) (by omega) _)
          have hH := hH.subcel 901 rfl 1501 hf1_1 (Rd.inok ((hH.rd 901 rfl)) (by omega) _)
          have hH := hH.subcel 901 rfl 1502 hf1_2 (Rd.inok ((hH.rd 901 rfl)) (by omega) _)
          have hH := hH.subcel 901 rfl 1503 hf1_3 (Rd.inok ((hH.rd 901 rfl)) (by omega) _)
          have hH := hH.subcel 901 rfl 1504 hf1_4 (Rd.inok ((hH.rd 901 rfl)) (by omega) _)
          refine l_at hF rfl rfl rfl (x_move (hF.tmp 0 rfl)) ?_; clear hF; intro a hF
          refine l_at hF rfl rfl rfl (x_move (hF.tmp 6 rfl)) ?_; clear hF; intro a hF
          refine l_at hF rfl rfl rfl (x_iaddr_A Try.underlying57 ty63 ((hH.rd 901 rfl)) (hF.tmp 36 rfl) (hF.tmp 37 rfl) (by omega) (by omega) _) ?_; clear hF; intro a hF
          refine l_at hF rfl rfl rfl (x_faddrA ((hH.rd 901 rfl)) (by omega) _ Try.underlying63 rfl ty3 (by decide) (hF.tmp 38 rfl) rfl) ?_; clear hF; intro a hF
          refine l_at hF rfl rfl rfl (x_load1 ty3 (hF.tmp 39 rfl) (hH.holds 1500 _ rfl)) ?_; clear hF; intro a hF
          refine l_at hF rfl rfl rfl (x_eql (hF.tmp 40 rfl) rfl) ?_; clear hF; intro a hF
          refine l_at hF rfl rfl rfl (x_move (hF.tmp 41 rfl)) ?_; clear hF; intro a hF
          refine split_bool hF 42 rfl (fun hb42 => ?_) (fun hb42 => ?_)
          · have hc42 := hb42; try simp only [Bool.or_eq_true, Bool.and_eq_true, Bool.or_eq_false_iff, Bool.and_eq_false_iff, Bool.not_eq_true', Bool.not_eq_false', decide_eq_true_eq, decide_eq_false_iff_not, Bool.not_true, Bool.not_false] at hc42
            refine l_atg hF ((wanted_of hF rfl rfl rfl rfl).trans (by rw [hb42]; rfl)) rfl rfl (x_move (hF.tmp 0 rfl)) ?_; clear hF; intro a hF
            refine l_atg hF ((wanted_of hF rfl rfl rfl rfl).trans (by rw [hb42]; rfl)) rfl rfl (x_move (hF.tmp 6 rfl)) ?_; clear hF; intro a hF
            refine l_atg hF ((wanted_of hF rfl rfl rfl rfl).trans (by rw [hb42]; rfl)) rfl rfl (x_iaddr_A Try.underlying57 ty63 ((hH.rd 901 rfl)) (hF.tmp 43 rfl) (hF.tmp 44 rfl) (by omega) (by omega) _) ?_; clear hF; intro a hF
            refine l_atg hF ((wanted_of hF rfl rfl rfl rfl).trans (by rw [hb42]; rfl)) rfl rfl (x_faddrA ((hH.rd 901 rfl)) (by omega) _ Try.underlying63 rfl ty42 (by decide) (hF.tmp 45 rfl) rfl) ?_; clear hF; intro a hF
            refine l_atg hF ((wanted_of hF rfl rfl rfl rfl).trans (by rw [hb42]; rfl)) rfl rfl (x_load1 ty42 (hF.tmp 46 rfl) (hH.holds 1503 _ rfl)) ?_; clear hF; intro a hF
            refine l_atg hF ((wanted_of hF rfl rfl rfl rfl).trans (by rw [hb42]; rfl)) rfl rfl (x_len_slice Try.underlying42 (hF.tmp 47 rfl)) ?_; clear hF; intro a hF
            refine l_atg hF ((wanted_of hF rfl rfl rfl rfl).trans (by rw [hb42]; rfl)) rfl rfl (x_leq (hF.tmp 48 rfl) rfl) ?_; clear hF; intro a hF
            refine l_at hF rfl rfl rfl (x_pickT (hF.tmp 42 rfl) hb42 (hF.tmp 49 rfl)) ?_; clear hF; intro a hF
            refine wpList_nil ?_
            refine hK12 _ _ ?_
            refine wp_cond_split (hF.tmp 50 rfl) (fun hc50 => ?_) (fun hc50 => ?_)
            · try simp only [Bool.or_eq_true, Bool.and_eq_true, Bool.or_eq_false_iff, Bool.and_eq_false_iff, Bool.not_eq_true', Bool.not_eq_false', decide_eq_true_eq, decide_eq_false_iff_not, Bool.not_true, Bool.not_false] at hc50
              refine r_start [(901, .rd_ ActE As script cs (fun k => k < w0.heap.size)), (1501, .cel (adr As ((k : Int).toNat * 5 + 1)) (.int .i64 (ga script (k : Int)).2.1)), (1503, .cel (adr As ((k : Int).toNat * 5 + 3)) (.slice fA1_0 (ga script (k : Int)).2.2.2.1.length fc1_0)), (1003, .rd_ (.int .u8) (fA1_0) (ga script (k : Int)).2.2.2.1 fc1_0 (fun k => k < w0.heap.size))] (by kernel_rfl) hH fun hH => ?_
              have hS : SL [(901, .rd_ ActE As script cs (fun k => k < w0.heap.size)), (1501, .cel (adr As ((k : Int).toNat * 5 + 1)) (.int .i64 (ga script (k : Int)).2.1)), (1503, .cel (adr As ((k : Int).toNat * 5 + 3)) (.slice fA1_0 (ga script (k : Int)).2.2.2.1.length fc1_0)), (1003, .rd_ (.int .u8) (fA1_0) (ga script (k : Int)).2.2.2.1 fc1_0 (fun k => k < w0.heap.size))] _ := SL.of hH (sub_cons (sub_cons (sub_cons (sub_cons (sub_nil _) 1003 rfl) 1503 rfl) 1501 rfl) 901 rfl)
              refine r_take 0 hF rfl rfl rfl (by kernel_rfl) (by kernel_rfl) (by kernel_rfl) (fun _ _ _ h => h) rfl hS (fun w hS => x_move (hF.tmp 5 rfl)) rfl ?_; clear hF; intro a hF
              refine r_take 1 hF rfl rfl rfl (by kernel_rfl) (by kernel_rfl) (by kernel_rfl) (fun _ _ _ h => h) rfl hS (fun w hS => x_move (hF.tmp 0 rfl)) rfl ?_; clear hF; intro a hF
              refine r_take 2 hF rfl rfl rfl (by kernel_rfl) (by kernel_rfl) (by kernel_rfl) (fun _ _ _ h => h) rfl hS (fun w hS => x_move (hF.tmp 6 rfl)) rfl ?_; clear hF; intro a hF
              refine r_take 3 hF rfl rfl rfl (by kernel_rfl) (by kernel_rfl) (by kernel_rfl) (fun _ _ _ h => h) rfl hS (fun w hS => x_iaddr_A Try.underlying57 ty63 ((hH.rd 901 rfl)) (hF.tmp 52 rfl) (hF.tmp 53 rfl) (by omega) (by omega) _) rfl ?_; clear hF; intro a hF
              refine r_take 4 hF rfl rfl rfl (by kernel_rfl) (by kernel_rfl) (by kernel_rfl) (fun _ _ _ h => h) rfl hS (fun w hS => x_faddrA ((SL.rd hS 901 rfl)) (by omega) _ Try.underlying63 rfl ty3 (by decide) (hF.tmp 54 rfl) rfl) rfl ?_; clear hF; intro a hF
              refine r_take 5 hF rfl rfl rfl (by kernel_rfl) (by kernel_rfl) (by kernel_rfl) (fun _ _ _ h => h) rfl hS (fun w hS => x_load1 ty3 (hF.tmp 55 rfl) (hS 1501 _ rfl)) rfl ?_; clear hF; intro a hF
              refine r_take 6 hF rfl rfl rfl (by kernel_rfl) (by kernel_rfl) (by kernel_rfl) (fun _ _ _ h => h) rfl hS (fun w hS => x_move (hF.tmp 0 rfl)) rfl ?_; clear hF; intro a hF
              refine r_take 7 hF rfl rfl rfl (by kernel_rfl) (by kernel_rfl) (by kernel_rfl) (fun _ _ _ h => h) rfl hS (fun w hS => x_move (hF.tmp 6 rfl)) rfl ?_; clear hF; intro a hF
              refine r_take 8 hF rfl rfl rfl (by kernel_rfl) (by kernel_rfl) (by kernel_rfl) (fun _ _ _ h => h) rfl hS (fun w hS => x_iaddr_A Try.underlying57 ty63 ((hH.rd 901 rfl)) (hF.tmp 57 rfl) (hF.tmp 58 rfl) (by omega) (by omega) _) rfl ?_; clear hF; intro a hF
              refine r_take 9 hF rfl rfl rfl (by kernel_rfl) (by kernel_rfl) (by kernel_rfl) (fun _ _ _ h => h) rfl hS (fun w hS => x_faddrA ((SL.rd hS 901 rfl)) (by omega) _ Try.underlying63 rfl ty42 (by decide) (hF.tmp 59 rfl) rfl) rfl ?_; clear hF; intro a hF
              refine r_take 10 hF rfl rfl rfl (by kernel_rfl) (by kernel_rfl) (by kernel_rfl) (fun _ _ _ h => h) rfl hS (fun w hS => x_load1 ty42 (hF.tmp 60 rfl) (hS 1503 _ rfl)) rfl ?_; clear hF; intro a hF
              refine r_do 11 rfl (by kernel_rfl) rfl rfl ?_
              refine w_call hF (x_enter Try.func22 (by kernel_rfl) rfl (by simp only [List.map_toArray, List.map_cons, List.map_nil, hF.tmp 51 rfl, hF.tmp 56 rfl, hF.tmp 61 rfl] <;> rfl)) (app_calls _ hq0_1 (it_ok hH 70 rfl) ((ga script (k : Int)).2.1) ((hH.rd 1003 rfl)) (fun k hk => hH.inb 1003 _ rfl k (.inr hk)) (fun k hk h => hH.sep 70 1003 _ _ (by decide) rfl rfl k h (.inr hk))) rfl rfl ?_
              rintro _ w ⟨X1_1, rfl, hD1_1, hG_⟩; refine ⟨_, rfl, ?_⟩; clear hF; intro a hF; have hH := hH.grew 70 rfl hG_ (fun k h => h.elim)
              clear hS; have hS : SL _ _ := SL.of hH (sub_cons (sub_cons (sub_cons (sub_cons (sub_nil _) 1003 rfl) 1503 rfl) 1501 rfl) 901 rfl); refine ⟨hS, ?_⟩
              refine r_end (by kernel_rfl) ?_; clear hS
              refine hK11 _ _ ?_
              refine wp_seq_k fun khK13 hK13 => ?_
              refine wp_region_lit ?_
              refine l_at hF rfl rfl rfl (x_move (hF.tmp 0 rfl)) ?_; clear hF; intro a hF
              refine l_at hF rfl rfl rfl (x_move (hF.tmp 6 rfl)) ?_; clear hF; intro a hF
              refine l_at hF rfl rfl rfl (x_iaddr_A Try.underlying57 ty63 ((hH.rd 901 rfl)) (hF.tmp 63 rfl) (hF.tmp 64 rfl) (by omega) (by omega) _) ?_; clear hF; intro a hF
              refine l_at hF rfl rfl rfl (x_faddrA ((hH.rd 901 rfl)) (by omega) _ Try.underlying63 rfl ty3 (by decide) (hF.tmp 65 rfl) rfl) ?_; clear hF; intro a hF
              refine l_at hF rfl rfl rfl (x_load1 ty3 (hF.tmp 66 rfl) (hH.holds 1500 _ rfl)) ?_; clear hF; intro a hF
              refine l_at hF rfl rfl rfl (x_eql (hF.tmp 67 rfl) rfl) ?_; clear hF; intro a hF
              refine l_at hF rfl rfl rfl (x_move (hF.tmp 68 rfl)) ?_; clear hF; intro a hF
              refine split_bool hF 69 rfl (fun hb69 => ?_) (fun hb69 => ?_)
              · have hc69 := hb69; try simp only [Bool.or_eq_true, Bool.and_eq_true, Bool.or_eq_false_iff, Bool.and_eq_false_iff, Bool.not_eq_true', Bool.not_eq_false', decide_eq_true_eq, decide_eq_false_iff_not, Bool.not_true, Bool.not_false] at hc69
                refine l_atg hF ((wanted_of hF rfl rfl rfl rfl).trans (by rw [hb69]; rfl)) rfl rfl (x_move (hF.tmp 0 rfl)) ?_; clear hF; intro a hF
                refine l_atg hF ((wanted_of hF rfl rfl rfl rfl).trans (by rw [hb69]; rfl)) rfl rfl (x_move (hF.tmp 6 rfl)) ?_; clear hF; intro a hF
                refine l_atg hF ((wanted_of hF rfl rfl rfl rfl).trans (by rw [hb69]; rfl)) rfl rfl (x_iaddr_A Try.underlying57 ty63 ((hH.rd 901 rfl)) (hF.tmp 70 rfl) (hF.tmp 71 rfl) (by omega) (by omega) _) ?_; clear hF; intro a hF
                refine l_atg hF ((wanted_of hF rfl rfl rfl rfl).trans (by rw [hb69]; rfl)) rfl rfl (x_faddrA ((hH.rd 901 rfl)) (by omega) _ Try.underlying63 rfl ty42 (by decide) (hF.tmp 72 rfl) rfl) ?_; clear hF; intro a hF
                refine l_atg hF ((wanted_of hF rfl rfl rfl rfl).trans (by rw [hb69]; rfl)) rfl rfl (x_load1 ty42 (hF.tmp 73 rfl) (hH.holds 1503 _ rfl)) ?_; clear hF; intro a hF
                refine l_atg hF ((wanted_of hF rfl rfl rfl rfl).trans (by rw [hb69]; rfl)) rfl rfl (x_len_slice Try.underlying42 (hF.tmp 74 rfl)) ?_; clear hF; intro a hF
                refine l_atg hF ((wanted_of hF rfl rfl rfl rfl).trans (by rw [hb69]; rfl)) rfl rfl (x_leq (hF.tmp 75 rfl) rfl) ?_; clear hF; intro a hF
                refine l_at hF rfl rfl rfl (x_pickT (hF.tmp 69 rfl) hb69 (hF.tmp 76 rfl)) ?_; clear hF; intro a hF
                refine wpList_nil ?_
                refine hK13 _ _ ?_
                refine wp_cond_split (hF.tmp 77 rfl) (fun hc77 => ?_) (fun hc77 => ?_)
                · try simp only [Bool.or_eq_true, Bool.and_eq_true, Bool.or_eq_false_iff, Bool.and_eq_false_iff, Bool.not_eq_true', Bool.not_eq_false', decide_eq_true_eq, decide_eq_false_iff_not, Bool.not_true, Bool.not_false] at hc77
                  refine wp_region_lit ?_
                  refine l_at hF rfl rfl rfl (x_move (hF.tmp 5 rfl)) ?_; clear hF; intro a hF
                  refine l_at hF rfl rfl rfl (x_move (hF.tmp 0 rfl)) ?_; clear hF; intro a hF
                  refine l_at hF rfl rfl rfl (x_move (hF.tmp 6 rfl)) ?_; clear hF; intro a hF
                  refine l_at hF rfl rfl rfl (x_iaddr_A Try.underlying57 ty63 ((hH.rd 901 rfl)) (hF.tmp 79 rfl) (hF.tmp 80 rfl) (by omega) (by omega) _) ?_; clear hF; intro a hF
                  refine l_at hF rfl rfl rfl (x_faddrA ((hH.rd 901 rfl)) (by omega) _ Try.underlying63 rfl ty42 (by decide) (hF.tmp 81 rfl) rfl) ?_; clear hF; intro a hF
                  refine l_at hF rfl rfl rfl (x_load1 ty42 (hF.tmp 82 rfl) (hH.holds 1503 _ rfl)) ?_; clear hF; intro a hF
                  refine wpList_plain rfl fun K hK => ?_
                  refine w_call hF (x_enter Try.func28 (by kernel_rfl) rfl (by simp only [List.map_toArray, List.map_cons, List.map_nil, hF.tmp 78 rfl, hF.tmp 83 rfl] <;> rfl)) (swap_calls _ hD1_1 (it_ok hH 70 rfl) ((hH.rd 1003 rfl)) (fun k hk => hH.inb 1003 _ rfl k (.inr hk)) (fun k hk h => hH.sep 70 1003 _ _ (by decide) rfl rfl k h (.inr hk))) rfl rfl ?_
                  rintro _ w ⟨X1_2, rfl, hD1_2, hG_⟩; refine ⟨_, rfl, ?_⟩; clear hF; intro a hF; have hH := hH.grew 70 rfl hG_ (fun k h => h.elim)
                  refine hK _ _ ?_; clear hK K
                  refine wpList_nil ?_
                  refine hK10 _ _ ?_
                  refine wp_region_lit ?_
                  refine l_at hF rfl rfl rfl (x_move (hF.tmp 6 rfl)) ?_; clear hF; intro a hF
                  refine l_at hF rfl rfl rfl (x_add (hF.tmp 34 rfl) rfl (w64 (by omega) (by omega))) ?_; clear hF; intro a hF
                  refine l_at hF rfl rfl rfl (x_assign (hF.tmp 35 rfl)) ?_; clear hF; intro a hF
                  refine wpList_nil ?_
                  exact ⟨_, by omega, ⟨k + 1, X1_2, _, _, rfl, by omega, hD1_2, (hq0_2.app _ _), (swap_le hq0_3), ((((hF.bare.add hF 6 rfl).add hF 5 rfl).add hF 3 rfl).add hF 0 rfl), hH.sub _ (sub_cons (sub_cons (sub_cons (sub_cons (sub_nil _) 70 rfl) 3 rfl) 902 rfl) 901 rfl)⟩⟩
                · try simp only [Bool.or_eq_true, Bool.and_eq_true, Bool.or_eq_false_iff, Bool.and_eq_false_iff, Bool.not_eq_true', Bool.not_eq_false', decide_eq_true_eq, decide_eq_false_iff_not, Bool.not_true, Bool.not_false] at hc77
                  refine wp_skip ?_
                  refine hK10 _ _ ?_
                  refine wp_region_lit ?_
                  refine l_at hF rfl rfl rfl (x_move (hF.tmp 6 rfl)) ?_; clear hF; intro a hF
                  refine l_at hF rfl rfl rfl (x_add (hF.tmp 34 rfl) rfl (w64 (by omega) (by omega))) ?_; clear hF; intro a hF
                  refine l_at hF rfl rfl rfl (x_assign (hF.tmp 35 rfl)) ?_; clear hF; intro a hF
                  refine wpList_nil ?_
                  exact ⟨_, by omega, ⟨k + 1, X1_1, _, _, rfl, by omega, hD1_1, (hq0_2.app _ _), hq0_3, ((((hF.bare.add hF 6 rfl).add hF 5 rfl).add hF 3 rfl).add hF 0 rfl), hH.sub _ (sub_cons (sub_cons (sub_cons (sub_cons (sub_nil _) 70 rfl) 3 rfl) 902 rfl) 901 rfl)⟩⟩
              · have hc69 := hb69; try simp only [Bool.or_eq_true, Bool.and_eq_true, Bool.or_eq_false_iff, Bool.and_eq_false_iff, Bool.not_eq_true', Bool.not_eq_false', decide_eq_true_eq, decide_eq_false_iff_not, Bool.not_true, Bool.not_false] at hc69
                refine l_offg hF ((wanted_of hF rfl rfl rfl rfl).trans (by rw [hb69]; rfl)) rfl rfl ?_; clear hF; intro a hF
                refine l_offg hF ((wanted_of hF rfl rfl rfl rfl).trans (by rw [hb69]; rfl)) rfl rfl ?_; clear hF; intro a hF
                refine l_offg hF ((wanted_of hF rfl rfl rfl rfl).trans (by rw [hb69]; rfl)) rfl rfl ?_; clear hF; intro a hF
                refine l_offg hF ((wanted_of hF rfl rfl rfl rfl).trans (by rw [hb69]; rfl)) rfl rfl ?_; clear hF; intro a hF
                refine l_offg hF ((wanted_of hF rfl rfl rfl rfl).trans (by rw [hb69]; rfl)) rfl rfl ?_; clear hF; intro a hF
                refine l_offg hF ((wanted_of hF rfl rfl rfl rfl).trans (by rw [hb69]; rfl)) rfl rfl ?_; clear hF; intro a hF
                refine l_offg hF ((wanted_of hF rfl rfl rfl rfl).trans (by rw [hb69]; rfl)) rfl rfl ?_; clear hF; intro a hF
                refine l_at hF rfl rfl rfl (x_pickF (hF.tmp 69 rfl) hb69 rfl) ?_; clear hF; intro a hF
                refine wpList_nil ?_
                refine hK13 _ _ ?_
                refine wp_cond_false (hF.tmp 77 rfl) ?_
                refine wp_skip ?_
                refine hK10 _ _ ?_
                refine wp_region_lit ?_
                refine l_at hF rfl rfl rfl (x_move (hF.tmp 6 rfl)) ?_; clear hF; intro a hF
                refine l_at hF rfl rfl rfl (x_add (hF.tmp 34 rfl) rfl (w64 (by omega) (by omega))) ?_; clear hF; intro a hF
                refine l_at hF rfl rfl rfl (x_assign (hF.tmp 35 rfl)) ?_; clear hF; intro a hF
                refine wpList_nil ?_
                exact ⟨_, by omega, ⟨k + 1, X1_1, _, _, rfl, by omega, hD1_1, (hq0_2.app _ _), hq0_3, ((((hF.bare.add hF 6 rfl).add hF 5 rfl).add hF 3 rfl).add hF 0 rfl), hH.sub _ (sub_cons (sub_cons (sub_cons (sub_cons (sub_nil _) 70 rfl) 3 rfl) 902 rfl) 901 rfl)⟩⟩
            · try simp only [Bool.or_eq_true, Bool.and_eq_true, Bool.or_eq_false_iff, Bool.and_eq_false_iff, Bool.not_eq_true', Bool.not_eq_false', decide_eq_true_eq, decide_eq_false_iff_not, Bool.not_true, Bool.not_false] at hc50
              refine wp_skip ?_
              refine hK11 _ _ ?_
              refine wp_seq_k fun khK14 hK14 => ?_
              refine wp_region_lit ?_
              refine l_at hF rfl rfl rfl (x_move (hF.tmp 0 rfl)) ?_; clear hF; intro a hF
              refine l_at hF rfl rfl rfl (x_move (hF.tmp 6 rfl)) ?_; clear hF; intro a hF
              refine l_at hF rfl rfl rfl (x_iaddr_A Try.underlying57 ty63 ((hH.rd 901 rfl)) (hF.tmp 63 rfl) (hF.tmp 64 rfl) (by omega) (by omega) _) ?_; clear hF; intro a hF
              refine l_at hF rfl rfl rfl (x_faddrA ((hH.rd 901 rfl)) (by omega) _ Try.underlying63 rfl ty3 (by decide) (hF.tmp 65 rfl) rfl) ?_; clear hF; intro a hF
              refine l_at hF rfl rfl rfl (x_load1 ty3 (hF.tmp 66 rfl) (hH.holds 1500 _ rfl)) ?_; clear hF; intro a hF
              refine l_at hF rfl rfl rfl (x_eql (hF.tmp 67 rfl) rfl) ?_; clear hF; intro a hF
              refine l_at hF rfl rfl rfl (x_move (hF.tmp 68 rfl)) ?_; clear hF; intro a hF
              refine split_bool hF 69 rfl (fun hb69 => ?_) (fun hb69 => ?_)
              · have hc69 := hb69; try simp only [Bool.or_eq_true, Bool.and_eq_true, Bool.or_eq_false_iff, Bool.and_eq_false_iff, Bool.not_eq_true', Bool.not_eq_false', decide_eq_true_eq, decide_eq_false_iff_not, Bool.not_true, Bool.not_false] at hc69
                refine l_atg hF ((wanted_of hF rfl rfl rfl rfl).trans (by rw [hb69]; rfl)) rfl rfl (x_move (hF.tmp 0 rfl)) ?_; clear hF; intro a hF
                refine l_atg hF ((wanted_of hF rfl rfl rfl rfl).trans (by rw [hb69]; rfl)) rfl rfl (x_move (hF.tmp 6 rfl)) ?_; clear hF; intro a hF
                refine l_atg hF ((wanted_of hF rfl rfl rfl rfl).trans (by rw [hb69]; rfl)) rfl rfl (x_iaddr_A Try.underlying57 ty63 ((hH.rd 901 rfl)) (hF.tmp 70 rfl) (hF.tmp 71 rfl) (by omega) (by omega) _) ?_; clear hF; intro a hF
                refine l_atg hF ((wanted_of hF rfl rfl rfl rfl).trans (by rw [hb69]; rfl)) rfl rfl (x_faddrA ((hH.rd 901 rfl)) (by omega) _ Try.underlying63 rfl ty42 (by decide) (hF.tmp 72 rfl) rfl) ?_; clear hF; intro a hF
                refine l_atg hF ((wanted_of hF rfl rfl rfl rfl).trans (by rw [hb69]; rfl)) rfl rfl (x_load1 ty42 (hF.tmp 73 rfl) (hH.holds 1503 _ rfl)) ?_; clear hF; intro a hF
                refine l_atg hF ((wanted_of hF rfl rfl rfl rfl).trans (by rw [hb69]; rfl)) rfl rfl (x_len_slice Try.underlying42 (hF.tmp 74 rfl)) ?_; clear hF; intro a hF
                refine l_atg hF ((wanted_of hF rfl rfl rfl rfl).trans (by rw [hb69]; rfl)) rfl rfl (x_leq (hF.tmp 75 rfl) rfl) ?_; clear hF; intro a hF
                refine l_at hF rfl rfl rfl (x_pickT (hF.tmp 69 rfl) hb69 (hF.tmp 76 rfl)) ?_; clear hF; intro a hF
                refine wpList_nil ?_
                refine hK14 _ _ ?_
                refine wp_cond_split (hF.tmp 77 rfl) (fun hc77 => ?_) (fun hc77 => ?_)
                · try simp only [Bool.or_eq_true, Bool.and_eq_true, Bool.or_eq_false_iff, Bool.and_eq_false_iff, Bool.not_eq_true', Bool.not_eq_false', decide_eq_true_eq, decide_eq_false_iff_not, Bool.not_true, Bool.not_false] at hc77
                  refine wp_region_lit ?_
                  refine l_at hF rfl rfl rfl (x_move (hF.tmp 5 rfl)) ?_; clear hF; intro a hF
                  refine l_at hF rfl rfl rfl (x_move (hF.tmp 0 rfl)) ?_; clear hF; intro a hF
                  refine l_at hF rfl rfl rfl (x_move (hF.tmp 6 rfl)) ?_; clear hF; intro a hF
                  refine l_at hF rfl rfl rfl (x_iaddr_A Try.underlying57 ty63 ((hH.rd 901 rfl)) (hF.tmp 79 rfl) (hF.tmp 80 rfl) (by omega) (by omega) _) ?_; clear hF; intro a hF
                  refine l_at hF rfl rfl rfl (x_faddrA ((hH.rd 901 rfl)) (by omega) _ Try.underlying63 rfl ty42 (by decide) (hF.tmp 81 rfl) rfl) ?_; clear hF; intro a hF
                  refine l_at hF rfl rfl rfl (x_load1 ty42 (hF.tmp 82 rfl) (hH.holds 1503 _ rfl)) ?_; clear hF; intro a hF
                  refine wpList_plain rfl fun K hK => ?_
                  refine w_call hF (x_enter Try.func28 (by kernel_rfl) rfl (by simp only [List.map_toArray, List.map_cons, List.map_nil, hF.tmp 78 rfl, hF.tmp 83 rfl] <;> rfl)) (swap_calls _ hq0_1 (it_ok hH 70 rfl) ((hH.rd 1003 rfl)) (fun k hk => hH.inb 1003 _ rfl k (.inr hk)) (fun k hk h => hH.sep 70 1003 _ _ (by decide) rfl rfl k h (.inr hk))) rfl rfl ?_
                  rintro _ w ⟨X1_1, rfl, hD1_1, hG_⟩; refine ⟨_, rfl, ?_⟩; clear hF; intro a hF; have hH := hH.grew 70 rfl hG_ (fun k h => h.elim)
                  refine hK _ _ ?_; clear hK K
                  refine wpList_nil ?_
                  refine hK10 _ _ ?_
                  refine wp_region_lit ?_
                  refine l_at hF rfl rfl rfl (x_move (hF.tmp 6 rfl)) ?_; clear hF; intro a hF
                  refine l_at hF rfl rfl rfl (x_add (hF.tmp 34 rfl) rfl (w64 (by omega) (by omega))) ?_; clear hF; intro a hF
                  refine l_at hF rfl rfl rfl (x_assign (hF.tmp 35 rfl)) ?_; clear hF; intro a hF
                  refine wpList_nil ?_
                  exact ⟨_, by omega, ⟨k + 1, X1_1, _, _, rfl, by omega, hD1_1, hq0_2, (swap_le hq0_3), ((((hF.bare.add hF 6 rfl).add hF 5 rfl).add hF 3 rfl).add hF 0 rfl), hH.sub _ (sub_cons (sub_cons (sub_cons (sub_cons (sub_nil _) 70 rfl) 3 rfl) 902 rfl) 901 rfl)⟩⟩
                · try simp only [Bool.or_eq_true, Bool.and_eq_true, Bool.or_eq_false_iff, Bool.and_eq_false_iff, Bool.not_eq_true', Bool.not_eq_false', decide_eq_true_eq, decide_eq_false_iff_not, Bool.not_true, Bool.not_false] at hc77
                  refine wp_skip ?_
                  refine hK10 _ _ ?_
                  refine wp_region_lit ?_
                  refine l_at hF rfl rfl rfl (x_move (hF.tmp 6 rfl)) ?_; clear hF; intro a hF
                  refine l_at hF rfl rfl rfl (x_add (hF.tmp 34 rfl) rfl (w64 (by omega) (by omega))) ?_; clear hF; intro a hF
                  refine l_at hF rfl rfl rfl (x_assign (hF.tmp 35 rfl)) ?_; clear hF; intro a hF
                  refine wpList_nil ?_
                  exact ⟨_, by omega, ⟨k + 1, X_, _, _, rfl, by omega, hq0_1, hq0_2, hq0_3, ((((hF.bare.add hF 6 rfl).add hF 5 rfl).add hF 3 rfl).add hF 0 rfl), hH.sub _ (sub_cons (sub_cons (sub_cons (sub_cons (sub_nil _) 70 rfl) 3 rfl) 902 rfl) 901 rfl)⟩⟩
              · have hc69 := hb69; try simp only [Bool.or_eq_true, Bool.and_eq_true, Bool.or_eq_false_iff, Bool.and_eq_false_iff, Bool.not_eq_true', Bool.not_eq_false', decide_eq_true_eq, decide_eq_false_iff_not, Bool.not_true, Bool.not_false] at hc69
                refine l_offg hF ((wanted_of hF rfl rfl rfl rfl).trans (by rw [hb69]; rfl)) rfl rfl ?_; clear hF; intro a hF
                refine l_offg hF ((wanted_of hF rfl rfl rfl rfl).trans (by rw [hb69]; rfl)) rfl rfl ?_; clear hF; intro a hF
                refine l_offg hF ((wanted_of hF rfl rfl rfl rfl).trans (by rw [hb69]; rfl)) rfl rfl ?_; clear hF; intro a hF
                refine l_offg hF ((wanted_of hF rfl rfl rfl rfl).trans (by rw [hb69]; rfl)) rfl rfl ?_; clear hF; intro a hF
                refine l_offg hF ((wanted_of hF rfl rfl rfl rfl).trans (by rw [hb69]; rfl)) rfl rfl ?_; clear hF; intro a hF
                refine l_offg hF ((wanted_of hF rfl rfl rfl rfl).trans (by rw [hb69]; rfl)) rfl rfl ?_; clear hF; intro a hF
                refine l_offg hF ((wanted_of hF rfl rfl rfl rfl).trans (by rw [hb69]; rfl)) rfl rfl ?_; clear hF; intro a hF
                refine l_at hF rfl rfl rfl (x_pickF (hF.tmp 69 rfl) hb69 rfl) ?_; clear hF; intro a hF
                refine wpList_nil ?_
                refine hK14 _ _ ?_
                refine wp_cond_false (hF.tmp 77 rfl) ?_
                refine wp_skip ?_
                refine hK10 _ _ ?_
                refine wp_region_lit ?_
                refine l_at hF rfl rfl rfl (x_move (hF.tmp 6 rfl)) ?_; clear hF; intro a hF
                refine l_at hF rfl rfl rfl (x_add (hF.tmp 34 rfl) rfl (w64 (by omega) (by omega))) ?_; clear hF; intro a hF
                refine l_at hF rfl rfl rfl (x_assign (hF.tmp 35 rfl)) ?_; clear hF; intro a hF
                refine wpList_nil ?_
                exact ⟨_, by omega, ⟨k + 1, X_, _, _, rfl, by omega, hq0_1, hq0_2, hq0_3, ((((hF.bare.add hF 6 rfl).add hF 5 rfl).add hF 3 rfl).add hF 0 rfl), hH.sub _ (sub_cons (sub_cons (sub_cons (sub_cons (sub_nil _) 70 rfl) 3 rfl) 902 rfl) 901 rfl)⟩⟩
          · have hc42 := hb42; try simp only [Bool.or_eq_true, Bool.and_eq_true, Bool.or_eq_false_iff, Bool.and_eq_false_iff, Bool.not_eq_true', Bool.not_eq_false', decide_eq_true_eq, decide_eq_false_iff_not, Bool.not_true, Bool.not_false] at hc42
            refine l_offg hF ((wanted_of hF rfl rfl rfl rfl).trans (by rw [hb42]; rfl)) rfl rfl ?_; clear hF; intro a hF
            refine l_offg hF ((wanted_of hF rfl rfl rfl rfl).trans (by rw [hb42]; rfl)) rfl rfl ?_; clear hF; intro a hF
            refine l_offg hF ((wanted_of hF rfl rfl rfl rfl).trans (by rw [hb42]; rfl)) rfl rfl ?_; clear hF; intro a hF
            refine l_offg hF ((wanted_of hF rfl rfl rfl rfl).trans (by rw [hb42]; rfl)) rfl rfl ?_; clear hF; intro a hF
            refine l_offg hF ((wanted_of hF rfl rfl rfl rfl).trans (by rw [hb42]; rfl)) rfl rfl ?_; clear hF; intro a hF
            refine l_offg hF ((wanted_of hF rfl rfl rfl rfl).trans (by rw [hb42]; rfl)) rfl rfl ?_; clear hF; intro a hF
            refine l_offg hF ((wanted_of hF rfl rfl rfl rfl).trans (by rw [hb42]; rfl)) rfl rfl ?_; clear hF; intro a hF
            refine l_at hF rfl rfl rfl (x_pickF (hF.tmp 42 rfl) hb42 rfl) ?_; clear hF; intro a hF
            refine wpList_nil ?_
            refine hK12 _ _ ?_
            refine wp_cond_false (hF.tmp 50 rfl) ?_
            refine wp_skip ?_
            refine hK11 _ _ ?_
            refine wp_seq_k fun khK15 hK15 => ?_
            refine wp_region_lit ?_
            refine l_at hF rfl rfl rfl (x_move (hF.tmp 0 rfl)) ?_; clear hF; intro a hF
            refine l_at hF rfl rfl rfl (x_move (hF.tmp 6 rfl)) ?_; clear hF; intro a hF
            refine l_at hF rfl rfl rfl (x_iaddr_A Try.underlying57 ty63 ((hH.rd 901 rfl)) (hF.tmp 63 rfl) (hF.tmp 64 rfl) (by omega) (by omega) _) ?_; clear hF; intro a hF
            refine l_at hF rfl rfl rfl (x_faddrA ((hH.rd 901 rfl)) (by omega) _ Try.underlying63 rfl ty3 (by decide) (hF.tmp 65 rfl) rfl) ?_; clear hF; intro a hF
            refine l_at hF rfl rfl rfl (x_load1 ty3 (hF.tmp 66 rfl) (hH.holds 1500 _ rfl)) ?_; clear hF; intro a hF
            refine l_at hF rfl rfl rfl (x_eql (hF.tmp 67 rfl) rfl) ?_; clear hF; intro a hF
            refine l_at hF rfl rfl rfl (x_move (hF.tmp 68 rfl)) ?_; clear hF; intro a hF
            refine split_bool hF 69 rfl (fun hb69 => ?_) (fun hb69 => ?_)
            · have hc69 := hb69; try simp only [Bool.or_eq_true, Bool.and_eq_true, Bool.or_eq_false_iff, Bool.and_eq_false_iff, Bool.not_eq_true', Bool.not_eq_false', decide_eq_true_eq, decide_eq_false_iff_not, Bool.not_true, Bool.not_false] at hc69
              refine l_atg hF ((wanted_of hF rfl rfl rfl rfl).trans (by rw [hb69]; rfl)) rfl rfl (x_move (hF.tmp 0 rfl)) ?_; clear hF; intro a hF
              refine l_atg hF ((wanted_of hF rfl rfl rfl rfl).trans (by rw [hb69]; rfl)) rfl rfl (x_move (hF.tmp 6 rfl)) ?_; clear hF; intro a hF
              refine l_atg hF ((wanted_of hF rfl rfl rfl rfl).trans (by rw [hb69]; rfl)) rfl rfl (x_iaddr_A Try.underlying57 ty63 ((hH.rd 901 rfl)) (hF.tmp 70 rfl) (hF.tmp 71 rfl) (by omega) (by omega) _) ?_; clear hF; intro a hF
              refine l_atg hF ((wanted_of hF rfl rfl rfl rfl).trans (by rw [hb69]; rfl)) rfl rfl (x_faddrA ((hH.rd 901 rfl)) (by omega) _ Try.underlying63 rfl ty42 (by decide) (hF.tmp 72 rfl) rfl) ?_; clear hF; intro a hF
              refine l_atg hF ((wanted_of hF rfl rfl rfl rfl).trans (by rw [hb69]; rfl)) rfl rfl (x_load1 ty42 (hF.tmp 73 rfl) (hH.holds 1503 _ rfl)) ?_; clear hF; intro a hF
              refine l_atg hF ((wanted_of hF rfl rfl rfl rfl).trans (by rw [hb69]; rfl)) rfl rfl (x_len_slice Try.underlying42 (hF.tmp 74 rfl)) ?_; clear hF; intro a hF
              refine l_atg hF ((wanted_of hF rfl rfl rfl rfl).trans (by rw [hb69]; rfl)) rfl rfl (x_leq (hF.tmp 75 rfl) rfl) ?_; clear hF; intro a hF
              refine l_at hF rfl rfl rfl (x_pickT (hF.tmp 69 rfl) hb69 (hF.tmp 76 rfl)) ?_; clear hF; intro a hF
              refine wpList_nil ?_
              refine hK15 _ _ ?_
              refine wp_cond_split (hF.tmp 77 rfl) (fun hc77 => ?_) (fun hc77 => ?_)
              · try simp only [Bool.or_eq_true, Bool.and_eq_true, Bool.or_eq_false_iff, Bool.and_eq_false_iff, Bool.not_eq_true', Bool.not_eq_false', decide_eq_true_eq, decide_eq_false_iff_not, Bool.not_true, Bool.not_false] at hc77
                refine wp_region_lit ?_
                refine l_at hF rfl rfl rfl (x_move (hF.tmp 5 rfl)) ?_; clear hF; intro a hF
                refine l_at hF rfl rfl rfl (x_move (hF.tmp 0 rfl)) ?_; clear hF; intro a hF
                refine l_at hF rfl rfl rfl (x_move (hF.tmp 6 rfl)) ?_; clear hF; intro a hF
                refine l_at hF rfl rfl rfl (x_iaddr_A Try.underlying57 ty63 ((hH.rd 901 rfl)) (hF.tmp 79 rfl) (hF.tmp 80 rfl) (by omega) (by omega) _) ?_; clear hF; intro a hF
                refine l_at hF rfl rfl rfl (x_faddrA ((hH.rd 901 rfl)) (by omega) _ Try.underlying63 rfl ty42 (by decide) (hF.tmp 81 rfl) rfl) ?_; clear hF; intro a hF
                refine l_at hF rfl rfl rfl (x_load1 ty42 (hF.tmp 82 rfl) (hH.holds 1503 _ rfl)) ?_; clear hF; intro a hF
                refine wpList_plain rfl fun K hK => ?_
                refine w_call hF (x_enter Try.func28 (by kernel_rfl) rfl (by simp only [List.map_toArray, List.map_cons, List.map_nil, hF.tmp 78 rfl, hF.tmp 83 rfl] <;> rfl)) (swap_calls _ hq0_1 (it_ok hH 70 rfl) ((hH.rd 1003 rfl)) (fun k hk => hH.inb 1003 _ rfl k (.inr hk)) (fun k hk h => hH.sep 70 1003 _ _ (by decide) rfl rfl k h (.inr hk))) rfl rfl ?_
                rintro _ w ⟨X1_1, rfl, hD1_1, hG_⟩; refine ⟨_, rfl, ?_⟩; clear hF; intro a hF; have hH := hH.grew 70 rfl hG_ (fun k h => h.elim)
                refine hK _ _ ?_; clear hK K
                refine wpList_nil ?_
                refine hK10 _ _ ?_
                refine wp_region_lit ?_
                refine l_at hF rfl rfl rfl (x_move (hF.tmp 6 rfl)) ?_; clear hF; intro a hF
                refine l_at hF rfl rfl rfl (x_add (hF.tmp 34 rfl) rfl (w64 (by omega) (by omega))) ?_; clear hF; intro a hF
                refine l_at hF rfl rfl rfl (x_assign (hF.tmp 35 rfl)) ?_; clear hF; intro a hF
                refine wpList_nil ?_
                exact ⟨_, by omega, ⟨k + 1, X1_1, _, _, rfl, by omega, hD1_1, hq0_2, (swap_le hq0_3), ((((hF.bare.add hF 6 rfl).add hF 5 rfl).add hF 3 rfl).add hF 0 rfl), hH.sub _ (sub_cons (sub_cons (sub_cons (sub_cons (sub_nil _) 70 rfl) 3 rfl) 902 rfl) 901 rfl)⟩⟩
              · try simp only [Bool.or_eq_true, Bool.and_eq_true, Bool.or_eq_false_iff, Bool.and_eq_false_iff, Bool.not_eq_true', Bool.not_eq_false', decide_eq_true_eq, decide_eq_false_iff_not, Bool.not_true, Bool.not_false] at hc77
                refine wp_skip ?_
                refine hK10 _ _ ?_
                refine wp_region_lit ?_
                refine l_at hF rfl rfl rfl (x_move (hF.tmp 6 rfl)) ?_; clear hF; intro a hF
                refine l_at hF rfl rfl rfl (x_add (hF.tmp 34 rfl) rfl (w64 (by omega) (by omega))) ?_; clear hF; intro a hF
                refine l_at hF rfl rfl rfl (x_assign (hF.tmp 35 rfl)) ?_; clear hF; intro a hF
                refine wpList_nil ?_
                exact ⟨_, by omega, ⟨k + 1, X_, _, _, rfl, by omega, hq0_1, hq0_2, hq0_3, ((((hF.bare.add hF 6 rfl).add hF 5 rfl).add hF 3 rfl).add hF 0 rfl), hH.sub _ (sub_cons (sub_cons (sub_cons (sub_cons (sub_nil _) 70 rfl) 3 rfl) 902 rfl) 901 rfl)⟩⟩
            · have hc69 := hb69; try simp only [Bool.or_eq_true, Bool.and_eq_true, Bool.or_eq_false_iff, Bool.and_eq_false_iff, Bool.not_eq_true', Bool.not_eq_false', decide_eq_true_eq, decide_eq_false_iff_not, Bool.not_true, Bool.not_false] at hc69
              refine l_offg hF ((wanted_of hF rfl rfl rfl rfl).trans (by rw [hb69]; rfl)) rfl rfl ?_; clear hF; intro a hF
              refine l_offg hF ((wanted_of hF rfl rfl rfl rfl).trans (by rw [hb69]; rfl)) rfl rfl ?_; clear hF; intro a hF
              refine l_offg hF ((wanted_of hF rfl rfl rfl rfl).trans (by rw [hb69]; rfl)) rfl rfl ?_; clear hF; intro a hF
              refine l_offg hF ((wanted_of hF rfl rfl rfl rfl).trans (by rw [hb69]; rfl)) rfl rfl ?_; clear hF; intro a hF
              refine l_offg hF ((wanted_of hF rfl rfl rfl rfl).trans (by rw [hb69]; rfl)) rfl rfl ?_; clear hF; intro a hF
              refine l_offg hF ((wanted_of hF rfl rfl rfl rfl).trans (by rw [hb69]; rfl)) rfl rfl ?_; clear hF; intro a hF
              refine l_offg hF ((wanted_of hF rfl rfl rfl rfl).trans (by rw [hb69]; rfl)) rfl rfl ?_; clear hF; intro a hF
              refine l_at hF rfl rfl rfl (x_pickF (hF.tmp 69 rfl) hb69 rfl) ?_; clear hF; intro a hF
              refine wpList_nil ?_
              refine hK15 _ _ ?_
              refine wp_cond_false (hF.tmp 77 rfl) ?_
              refine wp_skip ?_
              refine hK10 _ _ ?_
              refine wp_region_lit ?_
              refine l_at hF rfl rfl rfl (x_move (hF.tmp 6 rfl)) ?_; clear hF; intro a hF
              refine l_at hF rfl rfl rfl (x_add (hF.tmp 34 rfl) rfl (w64 (by omega) (by omega))) ?_; clear hF; intro a hF
              refine l_at hF rfl rfl rfl (x_assign (hF.tmp 35 rfl)) ?_; clear hF; intro a hF
              refine wpList_nil ?_
              exact ⟨_, by omega, ⟨k + 1, X_, _, _, rfl, by omega, hq0_1, hq0_2, hq0_3, ((((hF.bare.add hF 6 rfl).add hF 5 rfl).add hF 3 rfl).add hF 0 rfl), hH.sub _ (sub_cons (sub_cons (sub_cons (sub_cons (sub_nil _) 70 rfl) 3 rfl) 902 rfl) 901 rfl)⟩⟩
        · try simp only [Bool.or_eq_true, Bool.and_eq_true, Bool.or_eq_false_iff, Bool.and_eq_false_iff, Bool.not_eq_true', Bool.not_eq_false', decide_eq_true_eq, decide_eq_false_iff_not, Bool.not_true, Bool.not_false] at hc33
          have hfew := hq0_2.few
          have hkl := keysL_length m
          refine wp_exit ?_
          refine hK6 _ _ ?_
          refine wp_seq_k fun khK16 hK16 => ?_
          refine wp_region_lit ?_
          refine l_at hF rfl rfl rfl (x_move (hF.tmp 5 rfl)) ?_; clear hF; intro a hF
          refine wpList_plain rfl fun K hK => ?_
          refine w_call hF (x_enter Try.func40 (by kernel_rfl) rfl (by simp only [List.map_toArray, List.map_cons, List.map_nil, hF.tmp 85 rfl] <;> rfl)) (segs_calls _ hq0_1 (it_ok hH 70 rfl) (by have := hq0_2.few; omega)) rfl rfl ?_
          rintro _ w ⟨v86, rfl, hm_, hr_⟩; refine ⟨_, rfl, ?_⟩; clear hF; intro a hF; have hH := Hp.rowOut hH 86 hm_ (xs := (keysL m)) hr_; obtain ⟨A86, c86, rfl⟩ := (hH.row 86 rfl).form
          refine hK _ _ ?_; clear hK K
          refine l_at hF rfl rfl rfl (x_assign (hF.tmp 86 rfl)) ?_; clear hF; intro a hF
          refine wpList_nil ?_
          refine hK16 _ _ ?_
          refine wp_seq_k fun khK17 hK17 => ?_
          refine wp_region_lit ?_
          refine l_at hF rfl rfl rfl (x_assign rfl) ?_; clear hF; intro a hF
          have hH := hH.row0 8 Rep.str 9
          refine wpList_nil ?_
          refine hK17 _ _ ?_
          refine wp_seq_k fun khK18 hK18 => ?_
          refine wp_seq_k fun khK19 hK19 => ?_
          refine wp_region_lit ?_
          refine l_at hF rfl rfl rfl (x_assign rfl) ?_; clear hF; intro a hF
          refine wpList_nil ?_
          refine hK19 _ _ ?_
          refine wp_block ?_
          refine wp_loop_ghost (fun n_ a w => ∃ j : Nat, ∃ v8 : Value, n_ = (keysL m).length - j ∧ (j ≤ (keysL m).length) ∧ Fr 183 a [(3, .pointer (some ⟨b3, 0, none⟩)), (5, .pointer (some ⟨bd1, 0, none⟩)), (7, .slice A86 (keysL m).length c86), (8, v8), (9, .int .i64 (j : Int))] ∧ Hp (fun _ => False) w0 w [(901, .rd_ ActE As script cs (fun k => k < w0.heap.size)), (902, .rd_ (.int .u8) Ab bs cb (fun k => k < w0.heap.size)), (3, .blk b3 (.cells #[.int .i64 kd, .int .i64 n, .int .i64 q, .slice Ab bs.length cb, .slice Ak mk ck] 63 (0, 0))), (70, X_), (86, .row (.int .i64) 3 (.slice A86 (keysL m).length c86) (keysL m) (fun _ => False)), (8, .row Rep.str 9 v8 (wasL m j) (fun _ => False))]) ((keysL m).length) ?_ ?_
          · exact ⟨0, .slice none 0 0, rfl, by omega, (((((hF.bare.add hF 9 rfl).add hF 8 rfl).add hF 7 rfl).add hF 5 rfl).add hF 3 rfl), hH.sub _ (sub_cons (sub_cons (sub_cons (sub_cons (sub_cons (sub_cons (sub_nil _) 8 rfl) 86 rfl) 70 rfl) 3 rfl) 902 rfl) 901 rfl)⟩
          · rintro _ a w ⟨j, v8, rfl, hq2_0, hF, hH⟩
            refine wp_seq_k fun khK20 hK20 => ?_
            refine wp_seq_k fun khK21 hK21 => ?_
            refine wp_region_lit ?_
            refine l_at hF rfl rfl rfl (x_move (hF.tmp 9 rfl)) ?_; clear hF; intro a hF
            refine l_at hF rfl rfl rfl (x_move (hF.tmp 7 rfl)) ?_; clear hF; intro a hF
            refine l_at hF rfl rfl rfl (x_len_slice Try.underlying32 (hF.tmp 88 rfl)) ?_; clear hF; intro a hF
            refine l_at hF rfl rfl rfl (x_lss (hF.tmp 87 rfl) (hF.tmp 89 rfl)) ?_; clear hF; intro a hF
            refine wpList_nil ?_
            refine hK21 _ _ ?_
            refine wp_cond_split (hF.tmp 90 rfl) (fun hc90 => ?_) (fun hc90 => ?_)
            · try simp only [Bool.or_eq_true, Bool.and_eq_true, Bool.or_eq_false_iff, Bool.and_eq_false_iff, Bool.not_eq_true', Bool.not_eq_false', decide_eq_true_eq, decide_eq_false_iff_not, Bool.not_true, Bool.not_false] at hc90
              refine wp_skip ?_
              refine hK20 _ _ ?_
              refine wp_seq_k fun khK22 hK22 => ?_
              refine wp_block ?_
              refine wp_seq_k fun khK23 hK23 => ?_
              refine wp_region_lit ?_
              refine l_at hF rfl rfl rfl (x_move (hF.tmp 5 rfl)) ?_; clear hF; intro a hF
              refine l_at hF rfl rfl rfl (x_move (hF.tmp 7 rfl)) ?_; clear hF; intro a hF
              refine l_at hF rfl rfl rfl (x_move (hF.tmp 9 rfl)) ?_; clear hF; intro a hF
              refine l_at hF rfl rfl rfl (x_iaddr_A Try.underlying32 ty3 (Row.rd (ok' := fun k_ => (fun _ => False) k_ ∨ (.slice A86 (keysL m).length c86 : Value).ownBlock = some k_) (hH.row 86 rfl) (fun _ hk_ _ => .inl hk_) (fun _ hk_ => .inr hk_)) (hF.tmp 95 rfl) (hF.tmp 96 rfl) (by omega) (by omega) _) ?_; clear hF; intro a hF
              refine l_at hF rfl rfl rfl (x_load1 ty3 (hF.tmp 97 rfl) ((Row.rd (ok' := fun k_ => (fun _ => False) k_ ∨ (.slice A86 (keysL m).length c86 : Value).ownBlock = some k_) (hH.row 86 rfl) (fun _ hk_ _ => .inl hk_) (fun _ hk_ => .inr hk_)).cellA (gi_some (i := (j : Int)) (by omega) (by omega)))) ?_; clear hF; intro a hF
              refine wpList_plain rfl fun K hK => ?_
              refine w_call hF (x_enter Try.func23 (by kernel_rfl) rfl (by simp only [List.map_toArray, List.map_cons, List.map_nil, hF.tmp 94 rfl, hF.tmp 98 rfl] <;> rfl)) (read_calls _ hq0_1 (it_ok hH 70 rfl) (gi (keysL m) (j : Int)) (fun i => by have := (hq0_2.get i).2.2; omega)) rfl rfl ?_
              rintro _ w ⟨vr93, rfl, hm_, hr_⟩; refine ⟨_, rfl, ?_⟩; clear hF; intro a hF; have hH := Hp.rowOut hH 93 hm_ hr_; obtain ⟨Ar93, cr93, rfl⟩ := (hH.row 93 rfl).form
              refine hK _ _ ?_; clear hK K
              refine l_at hF rfl rfl rfl (x_move (hF.tmp 99 rfl)) ?_; clear hF; intro a hF
              refine l_at hF rfl rfl rfl (x_extract (hF.tmp 93 rfl) rfl) ?_; clear hF; intro a hF
              refine l_at hF rfl rfl rfl (x_extract (hF.tmp 93 rfl) rfl) ?_; clear hF; intro a hF
              refine l_at hF rfl rfl rfl (x_assign (hF.tmp 100 rfl)) ?_; clear hF; intro a hF
              refine l_at hF rfl rfl rfl (x_assign (hF.tmp 101 rfl)) ?_; clear hF; intro a hF
              refine wpList_nil ?_
              refine hK23 _ _ ?_
              refine wp_region_lit ?_
              refine l_at hF rfl rfl rfl (x_move (hF.tmp 8 rfl)) ?_; clear hF; intro a hF
              refine l_at hF rfl rfl rfl (x_move (hF.tmp 10 rfl)) ?_; clear hF; intro a hF
              refine l_at hF rfl rfl rfl (x_b2s Try.underlying42 Try.underlying5 Try.underlying9 (Row.rd (ok' := fun k_ => (fun _ => False) k_ ∨ (.slice Ar93 (getM m (gi (keysL m) (j : Int))).1.length cr93 : Value).ownBlock = some k_) (hH.row 93 rfl) (fun _ hk_ _ => .inl hk_) (fun _ hk_ => .inr hk_)) (hF.tmp 103 rfl)) ?_; clear hF; intro a hF
              refine wpList_plain rfl fun K hK => ?_
              refine w_lit 105 (enc := Value.string) (h1 := fun _ => rfl) ([strOfNums (getM m (gi (keysL m) (j : Int))).1]) hF hH rfl Try.underlying68 ty9 (by simp only [List.map_toArray, List.map_cons, List.map_nil, hF.tmp 104 rfl]; rfl) rfl (by decide) (by decide) (by kernel_rfl) ?_
              clear hF hH; intro a w b105 hF hH
              refine hK _ _ ?_; clear hK K
              refine wpList_plain rfl fun K hK => ?_
              refine w_append 8 105 (xs := (wasL m j)) (ys := ([strOfNums (getM m (gi (keysL m) (j : Int))).1])) hF hH rfl Try.underlying68 ty9 rfl rfl rfl rfl (Row.rd (ok' := fun k_ => (fun _ => False) k_ ∨ (.slice (some ⟨b105, 0, none⟩) ([strOfNums (getM m (gi (keysL m) (j : Int))).1]).length ([strOfNums (getM m (gi (keysL m) (j : Int))).1]).length : Value).ownBlock = some k_) (hH.row 105 rfl) (fun _ hk_ _ => .inl hk_) (fun _ hk_ => .inr hk_)) (by rintro k_ (hk_ | hk_); exact .inr hk_; exact .inl hk_) (hF.tmp 102 rfl) (hF.tmp 105 rfl) (by rw [was_len m (by omega)]; simp only [List.length_cons, List.length_nil]; omega) (by rw [was_len m (by omega)]; simp only [List.length_cons, List.length_nil, maxLen]; omega) (fun _ => False) (fun w' v' h => row_flat h _) (fun k_ hk_ => hk_.elim) ?_
              clear hF hH; intro a w v106 hF hH
              refine hK _ _ ?_; clear hK K
              rw [was_step (by omega)] at hH
              refine l_at hF rfl rfl rfl (x_assign (hF.tmp 106 rfl)) ?_; clear hF; intro a hF
              refine wpList_nil ?_
              refine hK22 _ _ ?_
              refine wp_region_lit ?_
              refine l_at hF rfl rfl rfl (x_move (hF.tmp 9 rfl)) ?_; clear hF; intro a hF
              refine l_at hF rfl rfl rfl (x_add (hF.tmp 91 rfl) rfl (w64 (by omega) (by omega))) ?_; clear hF; intro a hF
              refine l_at hF rfl rfl rfl (x_assign (hF.tmp 92 rfl)) ?_; clear hF; intro a hF
              refine wpList_nil ?_
              exact ⟨_, by omega, ⟨j + 1, v106, rfl, by omega, (((((hF.bare.add hF 9 rfl).add hF 8 rfl).add hF 7 rfl).add hF 5 rfl).add hF 3 rfl), hH.sub _ (sub_cons (sub_cons (sub_cons (sub_cons (sub_cons (sub_cons (sub_nil _) 8 rfl) 86 rfl) 70 rfl) 3 rfl) 902 rfl) 901 rfl)⟩⟩
            · try simp only [Bool.or_eq_true, Bool.and_eq_true, Bool.or_eq_false_iff, Bool.and_eq_false_iff, Bool.not_eq_true', Bool.not_eq_false', decide_eq_true_eq, decide_eq_false_iff_not, Bool.not_true, Bool.not_false] at hc90
              obtain rfl : j = (keysL m).length := by omega
              obtain ⟨A8, c8, rfl⟩ := (hH.row 8 rfl).form
              refine wp_exit ?_
              refine hK18 _ _ ?_
              refine wp_seq_k fun khK24 hK24 => ?_
              refine wp_region_lit ?_
              refine l_at hF rfl rfl rfl (x_move (hF.tmp 5 rfl)) ?_; clear hF; intro a hF
              refine wpList_plain rfl fun K hK => ?_
              refine w_call hF (x_enter Try.func30 (by kernel_rfl) rfl (by simp only [List.map_toArray, List.map_cons, List.map_nil, hF.tmp 107 rfl] <;> rfl)) (root_calls _ hq0_1 (it_ok hH 70 rfl) (by omega)) rfl rfl ?_
              rintro _ w ⟨vr108, rfl, hm_, hr_⟩; refine ⟨_, rfl, ?_⟩; clear hF; intro a hF; have hH := Hp.rowOut hH 108 hm_ hr_; obtain ⟨Ar108, cr108, rfl⟩ := (hH.row 108 rfl).form
              refine hK _ _ ?_; clear hK K
              refine l_at hF rfl rfl rfl (x_b2s Try.underlying42 Try.underlying5 Try.underlying9 (Row.rd (ok' := fun k_ => (fun _ => False) k_ ∨ (.slice Ar108 rt.length cr108 : Value).ownBlock = some k_) (hH.row 108 rfl) (fun _ hk_ _ => .inl hk_) (fun _ hk_ => .inr hk_)) (hF.tmp 108 rfl)) ?_; clear hF; intro a hF
              refine l_at hF rfl rfl rfl (x_assign (hF.tmp 109 rfl)) ?_; clear hF; intro a hF
              refine wpList_nil ?_
              refine hK24 _ _ ?_
              refine wp_seq_k fun khK25 hK25 => ?_
              refine wp_seq_k fun khK26 hK26 => ?_
              refine wp_region_lit ?_
              refine l_at hF rfl rfl rfl (x_faddr Try.underlying63 rfl ty3 (by decide) (hF.tmp 3 rfl) rfl) ?_; clear hF; intro a hF
              refine l_at hF rfl rfl rfl (x_load1 ty3 (hF.tmp 110 rfl) (blk_cell (hH.at 3 rfl) 0 rfl)) ?_; clear hF; intro a hF
              refine wpList_nil ?_
              refine hK26 _ _ ?_
              refine wp_block ?_
              refine wp_seq_k fun khK27 hK27 => ?_
              refine wp_region_lit ?_
              refine l_at hF rfl rfl rfl (x_eql (hF.tmp 111 rfl) rfl) ?_; clear hF; intro a hF
              refine l_at hF rfl rfl rfl (x_assign (hF.tmp 113 rfl)) ?_; clear hF; intro a hF
              refine wpList_nil ?_
              refine hK27 _ _ ?_
              refine wp_norm_k fun khK28 hK28 => ?_
              have hJ112 : ∀ a w, ∀ X2 : Asn, ∀ m2 : DM, (DiskA 106 bd1 m2 rt X2) → (SameBut n m m2) → (∀ i, (getM m2 i).1.length ≤ 100000000) → Fr 183 a [(3, .pointer (some ⟨b3, 0, none⟩)), (5, .pointer (some ⟨bd1, 0, none⟩)), (7, .slice A86 (keysL m).length c86), (8, .slice A8 (wasL m (keysL m).length).length c8), (12, .string (strOfNums rt))] → Hp (fun _ => False) w0 w [(901, .rd_ ActE As script cs (fun k => k < w0.heap.size)), (902, .rd_ (.int .u8) Ab bs cb (fun k => k < w0.heap.size)), (3, .blk b3 (.cells #[.int .i64 kd, .int .i64 n, .int .i64 q, .slice Ab bs.length cb, .slice Ak mk ck] 63 (0, 0))), (70, X2), (86, .row (.int .i64) 3 (.slice A86 (keysL m).length c86) (keysL m) (fun _ => False)), (8, .row Rep.str 9 (.slice A8 (wasL m (keysL m).length).length c8) (wasL m (keysL m).length) (fun _ => False)), (108, .row (.int .u8) 5 (.slice Ar108 rt.length cr108) rt (fun _ => False))] → khK28 a w := by
                intro a w X2 m2 hj112_0 hj112_1 hj112_2 hF hH
                refine hK28 a w ?_
                refine hK25 _ _ ?_
                refine wp_seq_k fun khK29 hK29 => ?_
                refine wp_seq_k fun khK30 hK30 => ?_
                refine wp_region_lit ?_
                refine l_at hF rfl rfl rfl (x_assign rfl) ?_; clear hF; intro a hF
                refine wpList_nil ?_
                refine hK30 _ _ ?_
                refine wp_block ?_
                refine wp_loop_ghost (fun n_ a w => ∃ j : Nat, n_ = (keysL m).length - j ∧ (j ≤ (keysL m).length) ∧ Fr 183 a [(3, .pointer (some ⟨b3, 0, none⟩)), (5, .pointer (some ⟨bd1, 0, none⟩)), (7, .slice A86 (keysL m).length c86), (8, .slice A8 (wasL m (keysL m).length).length c8), (12, .string (strOfNums rt)), (13, .int .i64 (j : Int))] ∧ Hp (fun _ => False) w0 w [(901, .rd_ ActE As script cs (fun k => k < w0.heap.size)), (902, .rd_ (.int .u8) Ab bs cb (fun k => k < w0.heap.size)), (3, .blk b3 (.cells #[.int .i64 kd, .int .i64 n, .int .i64 q, .slice Ab bs.length cb, .slice Ak mk ck] 63 (0, 0))), (70, X2), (86, .row (.int .i64) 3 (.slice A86 (keysL m).length c86) (keysL m) (fun _ => False)), (8, .row Rep.str 9 (.slice A8 (wasL m (keysL m).length).length c8) (wasL m (keysL m).length) (fun _ => False)), (108, .row (.int .u8) 5 (.slice Ar108 rt.length cr108) rt (fun _ => False))]) ((keysL m).length) ?_ ?_
                · exact ⟨0, rfl, by omega, ((((((hF.bare.add hF 13 rfl).add hF 12 rfl).add hF 8 rfl).add hF 7 rfl).add hF 5 rfl).add hF 3 rfl), hH.sub _ (sub_cons (sub_cons (sub_cons (sub_cons (sub_cons (sub_cons (sub_cons (sub_nil _) 108 rfl) 8 rfl) 86 rfl) 70 rfl) 3 rfl) 902 rfl) 901 rfl)⟩
                · rintro _ a w ⟨j, rfl, hq5_0, hF, hH⟩
                  refine wp_seq_k fun khK31 hK31 => ?_
                  refine wp_seq_k fun khK32 hK32 => ?_
                  refine wp_region_lit ?_
                  refine l_at hF rfl rfl rfl (x_move (hF.tmp 13 rfl)) ?_; clear hF; intro a hF
                  refine l_at hF rfl rfl rfl (x_move (hF.tmp 7 rfl)) ?_; clear hF; intro a hF
                  refine l_at hF rfl rfl rfl (x_len_slice Try.underlying32 (hF.tmp 141 rfl)) ?_; clear hF; intro a hF
                  refine l_at hF rfl rfl rfl (x_lss (hF.tmp 140 rfl) (hF.tmp 142 rfl)) ?_; clear hF; intro a hF
                  refine wpList_nil ?_
                  refine hK32 _ _ ?_
                  refine wp_cond_split (hF.tmp 143 rfl) (fun hc143 => ?_) (fun hc143 => ?_)
                  · try simp only [Bool.or_eq_true, Bool.and_eq_true, Bool.or_eq_false_iff, Bool.and_eq_false_iff, Bool.not_eq_true', Bool.not_eq_false', decide_eq_true_eq, decide_eq_false_iff_not, Bool.not_true, Bool.not_false] at hc143
                    refine wp_skip ?_
                    refine hK31 _ _ ?_
                    refine wp_seq_k fun khK33 hK33 => ?_
                    refine wp_block ?_
                    refine wp_seq_k fun khK34 hK34 => ?_
                    refine wp_region_lit ?_
                    refine l_at hF rfl rfl rfl (x_move (hF.tmp 5 rfl)) ?_; clear hF; intro a hF
                    refine l_at hF rfl rfl rfl (x_move (hF.tmp 7 rfl)) ?_; clear hF; intro a hF
                    refine l_at hF rfl rfl rfl (x_move (hF.tmp 13 rfl)) ?_; clear hF; intro a hF
                    refine l_at hF rfl rfl rfl (x_iaddr_A Try.underlying32 ty3 (Row.rd (ok' := fun k_ => (fun _ => False) k_ ∨ (.slice A86 (keysL m).length c86 : Value).ownBlock = some k_) (hH.row 86 rfl) (fun _ hk_ _ => .inl hk_) (fun _ hk_ => .inr hk_)) (hF.tmp 148 rfl) (hF.tmp 149 rfl) (by omega) (by omega) _) ?_; clear hF; intro a hF
                    refine l_at hF rfl rfl rfl (x_load1 ty3 (hF.tmp 150 rfl) ((Row.rd (ok' := fun k_ => (fun _ => False) k_ ∨ (.slice A86 (keysL m).length c86 : Value).ownBlock = some k_) (hH.row 86 rfl) (fun _ hk_ _ => .inl hk_) (fun _ hk_ => .inr hk_)).cellA (gi_some (i := (j : Int)) (by omega) (by omega)))) ?_; clear hF; intro a hF
                    refine wpList_plain rfl fun K hK => ?_
                    refine w_call hF (x_enter Try.func23 (by kernel_rfl) rfl (by simp only [List.map_toArray, List.map_cons, List.map_nil, hF.tmp 147 rfl, hF.tmp 151 rfl] <;> rfl)) (read_calls _ hj112_0 (it_ok hH 70 rfl) (gi (keysL m) (j : Int)) hj112_2) rfl rfl ?_
                    rintro _ w ⟨vr146, rfl, hm_, hr_⟩; refine ⟨_, rfl, ?_⟩; clear hF; intro a hF; have hH := Hp.rowOut hH 146 hm_ hr_; obtain ⟨Ar146, cr146, rfl⟩ := (hH.row 146 rfl).form
                    refine hK _ _ ?_; clear hK K
                    refine l_at hF rfl rfl rfl (x_move (hF.tmp 152 rfl)) ?_; clear hF; intro a hF
                    refine l_at hF rfl rfl rfl (x_extract (hF.tmp 146 rfl) rfl) ?_; clear hF; intro a hF
                    refine l_at hF rfl rfl rfl (x_extract (hF.tmp 146 rfl) rfl) ?_; clear hF; intro a hF
                    refine l_at hF rfl rfl rfl (x_assign (hF.tmp 153 rfl)) ?_; clear hF; intro a hF
                    refine l_at hF rfl rfl rfl (x_assign (hF.tmp 154 rfl)) ?_; clear hF; intro a hF
                    refine wpList_nil ?_
                    refine hK34 _ _ ?_
                    refine wp_seq_k fun khK35 hK35 => ?_
                    refine r_start [(3, .blk b3 (.cells #[.int .i64 kd, .int .i64 n, .int .i64 q, .slice Ab bs.length cb, .slice Ak mk ck] 63 (0, 0))), (86, .row (.int .i64) 3 (.slice A86 (keysL m).length c86) (keysL m) (fun _ => False)), (8, .row Rep.str 9 (.slice A8 (wasL m (keysL m).length).length c8) (wasL m (keysL m).length) (fun _ => False)), (146, .row (.int .u8) 5 (.slice Ar146 (getM m2 (gi (keysL m) (j : Int))).1.length cr146) (getM m2 (gi (keysL m) (j : Int))).1 (fun _ => False))] (by kernel_rfl) hH fun hH => ?_
                    have hS : SL [(3, .blk b3 (.cells #[.int .i64 kd, .int .i64 n, .int .i64 q, .slice Ab bs.length cb, .slice Ak mk ck] 63 (0, 0))), (86, .row (.int .i64) 3 (.slice A86 (keysL m).length c86) (keysL m) (fun _ => False)), (8, .row Rep.str 9 (.slice A8 (wasL m (keysL m).length).length c8) (wasL m (keysL m).length) (fun _ => False)), (146, .row (.int .u8) 5 (.slice Ar146 (getM m2 (gi (keysL m) (j : Int))).1.length cr146) (getM m2 (gi (keysL m) (j : Int))).1 (fun _ => False))] _ := SL.of hH (sub_cons (sub_cons (sub_cons (sub_cons (sub_nil _) 146 rfl) 8 rfl) 86 rfl) 3 rfl)
                    refine r_take 0 hF rfl rfl rfl (by kernel_rfl) (by kernel_rfl) (by kernel_rfl) (fun _ _ _ h => h) rfl hS (fun w hS => x_move (hF.tmp 7 rfl)) rfl ?_; clear hF; intro a hF
                    refine r_take 1 hF rfl rfl rfl (by kernel_rfl) (by kernel_rfl) (by kernel_rfl) (fun _ _ _ h => h) rfl hS (fun w hS => x_move (hF.tmp 13 rfl)) rfl ?_; clear hF; intro a hF
                    refine r_take 2 hF rfl rfl rfl (by kernel_rfl) (by kernel_rfl) (by kernel_rfl) (fun _ _ _ h => h) rfl hS (fun w hS => x_iaddr_A Try.underlying32 ty3 (Row.rd (ok' := fun k_ => (fun _ => False) k_ ∨ (.slice A86 (keysL m).length c86 : Value).ownBlock = some k_) (hH.row 86 rfl) (fun _ hk_ _ => .inl hk_) (fun _ hk_ => .inr hk_)) (hF.tmp 155 rfl) (hF.tmp 156 rfl) (by omega) (by omega) _) rfl ?_; clear hF; intro a hF
                    refine r_take 3 hF rfl rfl rfl (by kernel_rfl) (by kernel_rfl) (by kernel_rfl) (fun _ _ _ h => h) rfl hS (fun w hS => x_load1 ty3 (hF.tmp 157 rfl) ((Row.rd (ok' := fun k_ => (fun _ => False) k_ ∨ (.slice A86 (keysL m).length c86 : Value).ownBlock = some k_) (SL.row hS 86 rfl) (fun _ hk_ _ => .inl hk_) (fun _ hk_ => .inr hk_)).cellA (gi_some (i := (j : Int)) (by omega) (by omega)))) rfl ?_; clear hF; intro a hF
                    refine r_take 4 hF rfl rfl rfl (by kernel_rfl) (by kernel_rfl) (by kernel_rfl) (fun _ _ _ h => h) rfl hS (fun w hS => x_faddr Try.underlying63 rfl ty3 (by decide) (hF.tmp 3 rfl) rfl) rfl ?_; clear hF; intro a hF
                    refine r_take 5 hF rfl rfl rfl (by kernel_rfl) (by kernel_rfl) (by kernel_rfl) (fun _ _ _ h => h) rfl hS (fun w hS => x_load1 ty3 (hF.tmp 159 rfl) (blk_cell (SL.at_ hS 3 rfl) 1 rfl)) rfl ?_; clear hF; intro a hF
                    refine r_take 6 hF rfl rfl rfl (by kernel_rfl) (by kernel_rfl) (by kernel_rfl) (fun _ _ _ h => h) rfl hS (fun w hS => x_neq (hF.tmp 158 rfl) (hF.tmp 160 rfl)) rfl ?_; clear hF; intro a hF
                    refine r_take 7 hF rfl rfl rfl (by kernel_rfl) (by kernel_rfl) (by kernel_rfl) (fun _ _ _ h => h) rfl hS (fun w hS => x_move (hF.tmp 161 rfl)) rfl ?_; clear hF; intro a hF
                    refine split_bool hF 162 rfl (fun hb162 => ?_) (fun hb162 => ?_)
                    · have hc162 := hb162; try simp only [Bool.or_eq_true, Bool.and_eq_true, Bool.or_eq_false_iff, Bool.and_eq_false_iff, Bool.not_eq_true', Bool.not_eq_false', decide_eq_true_eq, decide_eq_false_iff_not, Bool.not_true, Bool.not_false] at hc162
                      have hget := hj112_1.get hc162
                      refine r_take 8 hF rfl rfl rfl (by kernel_rfl) (by kernel_rfl) (by kernel_rfl) (fun _ _ _ h => h) ((wanted_of hF rfl rfl rfl rfl).trans (by rw [hb162]; rfl)) hS (fun w hS => x_move (hF.tmp 15 rfl)) rfl ?_; clear hF; intro a hF
                      refine r_take 9 hF rfl rfl rfl (by kernel_rfl) (by kernel_rfl) (by kernel_rfl) (fun _ _ _ h => h) ((wanted_of hF rfl rfl rfl rfl).trans (by rw [hb162]; rfl)) hS (fun w hS => x_neq (hF.tmp 163 rfl) rfl) rfl ?_; clear hF; intro a hF
                      rw [show (!decide (atE m2 (gi (keysL m) (j : Int)) = 0)) = false by rw [at_of (hget.2.trans (has_of_key (gi_mem (by omega)))), decide_eq_true rfl]; rfl] at hF
                      refine r_take 10 hF rfl rfl rfl (by kernel_rfl) (by kernel_rfl) (by kernel_rfl) (fun _ _ _ h => h) ((wanted_of hF rfl rfl rfl rfl).trans (by rw [hb162]; rfl)) hS (fun w hS => x_move (hF.tmp 164 rfl)) rfl ?_; clear hF; intro a hF
                      refine r_take 11 hF rfl rfl rfl (by kernel_rfl) (by kernel_rfl) (by kernel_rfl) (fun _ _ _ h => h) ((wanted_of hF rfl rfl rfl rfl).trans rfl) hS (fun w hS => x_move (hF.tmp 14 rfl)) rfl ?_; clear hF; intro a hF
                      refine r_take 12 hF rfl rfl rfl (by kernel_rfl) (by kernel_rfl) (by kernel_rfl) (fun _ _ _ h => h) ((wanted_of hF rfl rfl rfl rfl).trans rfl) hS (fun w hS => x_b2s Try.underlying42 Try.underlying5 Try.underlying9 (Row.rd (ok' := fun k_ => (fun _ => False) k_ ∨ (.slice Ar146 (getM m2 (gi (keysL m) (j : Int))).1.length cr146 : Value).ownBlock = some k_) (SL.row hS 146 rfl) (fun _ hk_ _ => .inl hk_) (fun _ hk_ => .inr hk_)) (hF.tmp 166 rfl)) rfl ?_; clear hF; intro a hF
                      refine r_take 13 hF rfl rfl rfl (by kernel_rfl) (by kernel_rfl) (by kernel_rfl) (fun _ _ _ h => h) ((wanted_of hF rfl rfl rfl rfl).trans rfl) hS (fun w hS => x_move (hF.tmp 8 rfl)) rfl ?_; clear hF; intro a hF
                      refine r_take 14 hF rfl rfl rfl (by kernel_rfl) (by kernel_rfl) (by kernel_rfl) (fun _ _ _ h => h) ((wanted_of hF rfl rfl rfl rfl).trans rfl) hS (fun w hS => x_move (hF.tmp 13 rfl)) rfl ?_; clear hF; intro a hF
                      refine r_take 15 hF rfl rfl rfl (by kernel_rfl) (by kernel_rfl) (by kernel_rfl) (fun _ _ _ h => h) ((wanted_of hF rfl rfl rfl rfl).trans rfl) hS (fun w hS => x_iaddr_A Try.underlying68 ty9 (Row.rd (ok' := fun k_ => (fun _ => False) k_ ∨ (.slice A8 (wasL m (keysL m).length).length c8 : Value).ownBlock = some k_) (hH.row 8 rfl) (fun _ hk_ _ => .inl hk_) (fun _ hk_ => .inr hk_)) (hF.tmp 168 rfl) (hF.tmp 169 rfl) (by omega) (by rw [was_len m (Nat.le_refl _)]; omega) _) rfl ?_; clear hF; intro a hF
                      refine r_take 16 hF rfl rfl rfl (by kernel_rfl) (by kernel_rfl) (by kernel_rfl) (fun _ _ _ h => h) ((wanted_of hF rfl rfl rfl rfl).trans rfl) hS (fun w hS => x_load1 ty9 (hF.tmp 170 rfl) ((Row.rd (ok' := fun k_ => (fun _ => False) k_ ∨ (.slice A8 (wasL m (keysL m).length).length c8 : Value).ownBlock = some k_) (SL.row hS 8 rfl) (fun _ hk_ _ => .inl hk_) (fun _ hk_ => .inr hk_)).cellA (gs_some (i := (j : Int)) (by omega) (by rw [was_len m (Nat.le_refl _)]; omega)))) rfl ?_; clear hF; intro a hF
                      refine r_take 17 hF rfl rfl rfl (by kernel_rfl) (by kernel_rfl) (by kernel_rfl) (fun _ _ _ h => h) ((wanted_of hF rfl rfl rfl rfl).trans rfl) hS (fun w hS => x_nes (hF.tmp 167 rfl) (hF.tmp 171 rfl)) rfl ?_; clear hF; intro a hF
                      rw [show (!decide (strOfNums (getM m2 (gi (keysL m) (j : Int))).1 = gs (wasL m (keysL m).length) (j : Int))) = false by rw [was_at (by omega), hget.1, decide_eq_true rfl]; rfl] at hF
                      refine r_take 18 hF rfl rfl rfl (by kernel_rfl) (by kernel_rfl) (by kernel_rfl) (fun _ _ _ h => h) ((wanted_of hF rfl rfl rfl rfl).trans (by rw [hb162]; rfl)) hS (fun w hS => x_pickF (hF.tmp 165 rfl) rfl (hF.tmp 172 rfl)) rfl ?_; clear hF; intro a hF
                      refine r_take 19 hF rfl rfl rfl (by kernel_rfl) (by kernel_rfl) (by kernel_rfl) (fun _ _ _ h => h) rfl hS (fun w hS => x_pickT (hF.tmp 162 rfl) hb162 (hF.tmp 173 rfl)) rfl ?_; clear hF; intro a hF
                      refine r_end (by kernel_rfl) ?_; clear hS
                      refine hK35 _ _ ?_
                      refine wp_cond_false (hF.tmp 174 rfl) ?_
                      refine wp_skip ?_
                      refine hK33 _ _ ?_
                      refine wp_region_lit ?_
                      refine l_at hF rfl rfl rfl (x_move (hF.tmp 13 rfl)) ?_; clear hF; intro a hF
                      refine l_at hF rfl rfl rfl (x_add (hF.tmp 144 rfl) rfl (w64 (by omega) (by omega))) ?_; clear hF; intro a hF
                      refine l_at hF rfl rfl rfl (x_assign (hF.tmp 145 rfl)) ?_; clear hF; intro a hF
                      refine wpList_nil ?_
                      exact ⟨_, by omega, ⟨j + 1, rfl, by omega, ((((((hF.bare.add hF 13 rfl).add hF 12 rfl).add hF 8 rfl).add hF 7 rfl).add hF 5 rfl).add hF 3 rfl), hH.sub _ (sub_cons (sub_cons (sub_cons (sub_cons (sub_cons (sub_cons (sub_cons (sub_nil _) 108 rfl) 8 rfl) 86 rfl) 70 rfl) 3 rfl) 902 rfl) 901 rfl)⟩⟩
                    · have hc162 := hb162; try simp only [Bool.or_eq_true, Bool.and_eq_true, Bool.or_eq_false_iff, Bool.and_eq_false_iff, Bool.not_eq_true', Bool.not_eq_false', decide_eq_true_eq, decide_eq_false_iff_not, Bool.not_true, Bool.not_false] at hc162
                      refine r_off 8 hF rfl rfl rfl (by kernel_rfl) (by kernel_rfl) (by kernel_rfl) (fun _ _ _ h => h) ((wanted_of hF rfl rfl rfl rfl).trans (by rw [hb162]; rfl)) hS rfl ?_; clear hF; intro a hF
                      refine r_off 9 hF rfl rfl rfl (by kernel_rfl) (by kernel_rfl) (by kernel_rfl) (fun _ _ _ h => h) ((wanted_of hF rfl rfl rfl rfl).trans (by rw [hb162]; rfl)) hS rfl ?_; clear hF; intro a hF
                      refine r_off 10 hF rfl rfl rfl (by kernel_rfl) (by kernel_rfl) (by kernel_rfl) (fun _ _ _ h => h) ((wanted_of hF rfl rfl rfl rfl).trans (by rw [hb162]; rfl)) hS rfl ?_; clear hF; intro a hF
                      refine r_off 11 hF rfl rfl rfl (by kernel_rfl) (by kernel_rfl) (by kernel_rfl) (fun _ _ _ h => h) (wanted_un hF rfl rfl rfl rfl) hS rfl ?_; clear hF; intro a hF
                      refine r_off 12 hF rfl rfl rfl (by kernel_rfl) (by kernel_rfl) (by kernel_rfl) (fun _ _ _ h => h) (wanted_un hF rfl rfl rfl rfl) hS rfl ?_; clear hF; intro a hF
                      refine r_off 13 hF rfl rfl rfl (by kernel_rfl) (by kernel_rfl) (by kernel_rfl) (fun _ _ _ h => h) (wanted_un hF rfl rfl rfl rfl) hS rfl ?_; clear hF; intro a hF
                      refine r_off 14 hF rfl rfl rfl (by kernel_rfl) (by kernel_rfl) (by kernel_rfl) (fun _ _ _ h => h) (wanted_un hF rfl rfl rfl rfl) hS rfl ?_; clear hF; intro a hF
                      refine r_off 15 hF rfl rfl rfl (by kernel_rfl) (by kernel_rfl) (by kernel_rfl) (fun _ _ _ h => h) (wanted_un hF rfl rfl rfl rfl) hS rfl ?_; clear hF; intro a hF
                      refine r_off 16 hF rfl rfl rfl (by kernel_rfl) (by kernel_rfl) (by kernel_rfl) (fun _ _ _ h => h) (wanted_un hF rfl rfl rfl rfl) hS rfl ?_; clear hF; intro a hF
                      refine r_off 17 hF rfl rfl rfl (by kernel_rfl) (by kernel_rfl) (by kernel_rfl) (fun _ _ _ h => h) (wanted_un hF rfl rfl rfl rfl) hS rfl ?_; clear hF; intro a hF
                      refine r_off 18 hF rfl rfl rfl (by kernel_rfl) (by kernel_rfl) (by kernel_rfl) (fun _ _ _ h => h) ((wanted_of hF rfl rfl rfl rfl).trans (by rw [hb162]; rfl)) hS rfl ?_; clear hF; intro a hF
                      refine r_take 19 hF rfl rfl rfl (by kernel_rfl) (by kernel_rfl) (by kernel_rfl) (fun _ _ _ h => h) rfl hS (fun w hS => x_pickF (hF.tmp 162 rfl) hb162 rfl) rfl ?_; clear hF; intro a hF
                      refine r_end (by kernel_rfl) ?_; clear hS
                      refine hK35 _ _ ?_
                      refine wp_cond_false (hF.tmp 174 rfl) ?_
                      refine wp_skip ?_
                      refine hK33 _ _ ?_
                      refine wp_region_lit ?_
                      refine l_at hF rfl rfl rfl (x_move (hF.tmp 13 rfl)) ?_; clear hF; intro a hF
                      refine l_at hF rfl rfl rfl (x_add (hF.tmp 144 rfl) rfl (w64 (by omega) (by omega))) ?_; clear hF; intro a hF
                      refine l_at hF rfl rfl rfl (x_assign (hF.tmp 145 rfl)) ?_; clear hF; intro a hF
                      refine wpList_nil ?_
                      exact ⟨_, by omega, ⟨j + 1, rfl, by omega, ((((((hF.bare.add hF 13 rfl).add hF 12 rfl).add hF 8 rfl).add hF 7 rfl).add hF 5 rfl).add hF 3 rfl), hH.sub _ (sub_cons (sub_cons (sub_cons (sub_cons (sub_cons (sub_cons (sub_cons (sub_nil _) 108 rfl) 8 rfl) 86 rfl) 70 rfl) 3 rfl) 902 rfl) 901 rfl)⟩⟩
                  · try simp only [Bool.or_eq_true, Bool.and_eq_true, Bool.or_eq_false_iff, Bool.and_eq_false_iff, Bool.not_eq_true', Bool.not_eq_false', decide_eq_true_eq, decide_eq_false_iff_not, Bool.not_true, Bool.not_false] at hc143
                    refine wp_exit ?_
                    refine hK29 _ _ ?_
                    refine wp_seq_k fun khK36 hK36 => ?_
                    refine wp_region_lit ?_
                    refine wpList_plain rfl fun K hK => ?_
                    refine w_call hF (x_enter Try.func21 (by kernel_rfl) rfl (by simp only [List.map_toArray, List.map_cons, List.map_nil] <;> rfl)) (alive_calls _) rfl rfl ?_
                    rintro _ w ⟨rfl, hm_⟩; refine ⟨_, rfl, ?_⟩; clear hF; intro a hF; have hH := hH.same hm_
                    refine hK _ _ ?_; clear hK K
                    refine l_at hF rfl rfl rfl (x_move (hF.tmp 175 rfl)) ?_; clear hF; intro a hF
                    refine l_atg hF ((wanted_of hF rfl rfl rfl rfl).trans rfl) rfl rfl (x_move (hF.tmp 5 rfl)) ?_; clear hF; intro a hF
                    refine wpList_on ((wanted_of hF rfl rfl rfl rfl).trans rfl) fun K hK => ?_
                    refine w_call hF (x_enter Try.func30 (by kernel_rfl) rfl (by simp only [List.map_toArray, List.map_cons, List.map_nil, hF.tmp 177 rfl] <;> rfl)) (root_calls _ hj112_0 (it_ok hH 70 rfl) (by omega)) rfl rfl ?_
                    rintro _ w ⟨vr178, rfl, hm_, hr_⟩; refine ⟨_, rfl, ?_⟩; clear hF; intro a hF; have hH := Hp.rowOut hH 178 hm_ hr_; obtain ⟨Ar178, cr178, rfl⟩ := (hH.row 178 rfl).form
                    refine hK _ _ ?_; clear hK K
                    refine l_atg hF ((wanted_of hF rfl rfl rfl rfl).trans rfl) rfl rfl (x_b2s Try.underlying42 Try.underlying5 Try.underlying9 (Row.rd (ok' := fun k_ => (fun _ => False) k_ ∨ (.slice Ar178 rt.length cr178 : Value).ownBlock = some k_) (hH.row 178 rfl) (fun _ hk_ _ => .inl hk_) (fun _ hk_ => .inr hk_)) (hF.tmp 178 rfl)) ?_; clear hF; intro a hF
                    refine l_atg hF ((wanted_of hF rfl rfl rfl rfl).trans rfl) rfl rfl (x_move (hF.tmp 12 rfl)) ?_; clear hF; intro a hF
                    refine l_atg hF ((wanted_of hF rfl rfl rfl rfl).trans rfl) rfl rfl (x_eqs (hF.tmp 179 rfl) (hF.tmp 180 rfl)) ?_; clear hF; intro a hF
                    rw [decide_eq_true (rfl)] at hF
                    refine l_at hF rfl rfl rfl (x_pickT (hF.tmp 176 rfl) rfl (hF.tmp 181 rfl)) ?_; clear hF; intro a hF
                    refine l_at hF rfl rfl rfl (x_assign (hF.tmp 182 rfl)) ?_; clear hF; intro a hF
                    refine wpList_nil ?_
                    refine hK36 _ _ ?_
                    refine wp_ret ?_
                    try simp only [Exit.then, Exit.inBlock]
                    exact fin_ret hF (res1 hF rfl rfl) ⟨rfl, hH.mods⟩
              refine wp_cond_split (hF.tmp 112 rfl) (fun hc112 => ?_) (fun hc112 => ?_)
              · try simp only [Bool.or_eq_true, Bool.and_eq_true, Bool.or_eq_false_iff, Bool.and_eq_false_iff, Bool.not_eq_true', Bool.not_eq_false', decide_eq_true_eq, decide_eq_false_iff_not, Bool.not_true, Bool.not_false] at hc112
                refine wp_region_lit ?_
                refine l_at hF rfl rfl rfl (x_move (hF.tmp 5 rfl)) ?_; clear hF; intro a hF
                refine l_at hF rfl rfl rfl (x_faddr Try.underlying63 rfl ty3 (by decide) (hF.tmp 3 rfl) rfl) ?_; clear hF; intro a hF
                refine l_at hF rfl rfl rfl (x_load1 ty3 (hF.tmp 115 rfl) (blk_cell (hH.at 3 rfl) 1 rfl)) ?_; clear hF; intro a hF
                refine l_at hF rfl rfl rfl (x_faddr Try.underlying63 rfl ty42 (by decide) (hF.tmp 3 rfl) rfl) ?_; clear hF; intro a hF
                refine l_at hF rfl rfl rfl (x_load1 ty42 (hF.tmp 117 rfl) (blk_cell (hH.at 3 rfl) 3 rfl)) ?_; clear hF; intro a hF
                refine wpList_plain rfl fun K hK => ?_
                refine w_call hF (x_enter Try.func22 (by kernel_rfl) rfl (by simp only [List.map_toArray, List.map_cons, List.map_nil, hF.tmp 114 rfl, hF.tmp 116 rfl, hF.tmp 118 rfl] <;> rfl)) (app_calls _ hq0_1 (it_ok hH 70 rfl) n ((hH.rd 902 rfl)) (fun k hk => hH.inb 902 _ rfl k (.inr hk)) (fun k hk h => hH.sep 70 902 _ _ (by decide) rfl rfl k h (.inr hk))) rfl rfl ?_
                rintro _ w ⟨X1_1, rfl, hD1_1, hG_⟩; refine ⟨_, rfl, ?_⟩; clear hF; intro a hF; have hH := hH.grew 70 rfl hG_ (fun k h => h.elim)
                refine hK _ _ ?_; clear hK K
                have hj_1 := hD1_1
                have hj_2 := same_app m n bs
                have hj_3 : ∀ i, (getM (appM m n bs) i).1.length ≤ 100000000 := (fun i => by have := ((hq0_2.app n bs).get i).2.2; omega)
                refine wpList_nil ?_
                exact hJ112 _ _ X1_1 (appM m n bs) hj_1 hj_2 hj_3 (((((hF.bare.add hF 12 rfl).add hF 8 rfl).add hF 7 rfl).add hF 5 rfl).add hF 3 rfl) (hH.sub _ (sub_cons (sub_cons (sub_cons (sub_cons (sub_cons (sub_cons (sub_cons (sub_nil _) 108 rfl) 8 rfl) 86 rfl) 70 rfl) 3 rfl) 902 rfl) 901 rfl))
              · try simp only [Bool.or_eq_true, Bool.and_eq_true, Bool.or_eq_false_iff, Bool.and_eq_false_iff, Bool.not_eq_true', Bool.not_eq_false', decide_eq_true_eq, decide_eq_false_iff_not, Bool.not_true, Bool.not_false] at hc112
                refine wp_seq_k fun khK37 hK37 => ?_
                refine wp_region_lit ?_
                refine l_at hF rfl rfl rfl (x_eql (hF.tmp 111 rfl) rfl) ?_; clear hF; intro a hF
                refine l_at hF rfl rfl rfl (x_assign (hF.tmp 121 rfl)) ?_; clear hF; intro a hF
                refine wpList_nil ?_
                refine hK37 _ _ ?_
                refine wp_cond_split (hF.tmp 120 rfl) (fun hc120 => ?_) (fun hc120 => ?_)
                · try simp only [Bool.or_eq_true, Bool.and_eq_true, Bool.or_eq_false_iff, Bool.and_eq_false_iff, Bool.not_eq_true', Bool.not_eq_false', decide_eq_true_eq, decide_eq_false_iff_not, Bool.not_true, Bool.not_false] at hc120
                  refine wp_region_lit ?_
                  refine l_at hF rfl rfl rfl (x_move (hF.tmp 5 rfl)) ?_; clear hF; intro a hF
                  refine l_at hF rfl rfl rfl (x_faddr Try.underlying63 rfl ty3 (by decide) (hF.tmp 3 rfl) rfl) ?_; clear hF; intro a hF
                  refine l_at hF rfl rfl rfl (x_load1 ty3 (hF.tmp 123 rfl) (blk_cell (hH.at 3 rfl) 1 rfl)) ?_; clear hF; intro a hF
                  refine wpList_plain rfl fun K hK => ?_
                  refine w_call hF (x_enter Try.func27 (by kernel_rfl) rfl (by simp only [List.map_toArray, List.map_cons, List.map_nil, hF.tmp 122 rfl, hF.tmp 124 rfl] <;> rfl)) (sync_calls _ hq0_1 (it_ok hH 70 rfl) n) rfl rfl ?_
                  rintro _ w ⟨X1_1, rfl, hD1_1, hG_⟩; refine ⟨_, rfl, ?_⟩; clear hF; intro a hF; have hH := hH.grew 70 rfl hG_ (fun k h => h.elim)
                  refine hK _ _ ?_; clear hK K
                  have hj_1 := hD1_1
                  have hj_2 := same_sync m n
                  have hj_3 : ∀ i, (getM (syncM m n) i).1.length ≤ 100000000 := (fun i => by have := ((hq0_2.sync n).get i).2.2; omega)
                  refine wpList_nil ?_
                  exact hJ112 _ _ X1_1 (syncM m n) hj_1 hj_2 hj_3 (((((hF.bare.add hF 12 rfl).add hF 8 rfl).add hF 7 rfl).add hF 5 rfl).add hF 3 rfl) (hH.sub _ (sub_cons (sub_cons (sub_cons (sub_cons (sub_cons (sub_cons (sub_cons (sub_nil _) 108 rfl) 8 rfl) 86 rfl) 70 rfl) 3 rfl) 902 rfl) 901 rfl))
                · try simp only [Bool.or_eq_true, Bool.and_eq_true, Bool.or_eq_false_iff, Bool.and_eq_false_iff, Bool.not_eq_true', Bool.not_eq_false', decide_eq_true_eq, decide_eq_false_iff_not, Bool.not_true, Bool.not_false] at hc120
                  refine wp_seq_k fun khK38 hK38 => ?_
                  refine wp_region_lit ?_
                  refine l_at hF rfl rfl rfl (x_eql (hF.tmp 111 rfl) rfl) ?_; clear hF; intro a hF
                  refine l_at hF rfl rfl rfl (x_assign (hF.tmp 127 rfl)) ?_; clear hF; intro a hF
                  refine wpList_nil ?_
                  refine hK38 _ _ ?_
                  refine wp_cond_split (hF.tmp 126 rfl) (fun hc126 => ?_) (fun hc126 => ?_)
                  · try simp only [Bool.or_eq_true, Bool.and_eq_true, Bool.or_eq_false_iff, Bool.and_eq_false_iff, Bool.not_eq_true', Bool.not_eq_false', decide_eq_true_eq, decide_eq_false_iff_not, Bool.not_true, Bool.not_false] at hc126
                    refine wp_region_lit ?_
                    refine l_at hF rfl rfl rfl (x_move (hF.tmp 5 rfl)) ?_; clear hF; intro a hF
                    refine l_at hF rfl rfl rfl (x_faddr Try.underlying63 rfl ty3 (by decide) (hF.tmp 3 rfl) rfl) ?_; clear hF; intro a hF
                    refine l_at hF rfl rfl rfl (x_load1 ty3 (hF.tmp 129 rfl) (blk_cell (hH.at 3 rfl) 1 rfl)) ?_; clear hF; intro a hF
                    refine l_at hF rfl rfl rfl (x_faddr Try.underlying63 rfl ty3 (by decide) (hF.tmp 3 rfl) rfl) ?_; clear hF; intro a hF
                    refine l_at hF rfl rfl rfl (x_load1 ty3 (hF.tmp 131 rfl) (blk_cell (hH.at 3 rfl) 2 rfl)) ?_; clear hF; intro a hF
                    refine wpList_plain rfl fun K hK => ?_
                    refine w_call hF (x_enter Try.func25 (by kernel_rfl) rfl (by simp only [List.map_toArray, List.map_cons, List.map_nil, hF.tmp 128 rfl, hF.tmp 130 rfl, hF.tmp 132 rfl] <;> rfl)) (cut_calls _ hq0_1 (it_ok hH 70 rfl) n q) rfl rfl ?_
                    rintro _ w ⟨X1_1, rfl, hD1_1, hG_⟩; refine ⟨_, rfl, ?_⟩; clear hF; intro a hF; have hH := hH.grew 70 rfl hG_ (fun k h => h.elim)
                    refine hK _ _ ?_; clear hK K
                    have hj_1 := hD1_1
                    have hj_2 := same_cut m n q
                    have hj_3 : ∀ i, (getM (cutM m n q) i).1.length ≤ 100000000 := (fun i => by have := ((hq0_2.cut n q).get i).2.2; omega)
                    refine wpList_nil ?_
                    exact hJ112 _ _ X1_1 (cutM m n q) hj_1 hj_2 hj_3 (((((hF.bare.add hF 12 rfl).add hF 8 rfl).add hF 7 rfl).add hF 5 rfl).add hF 3 rfl) (hH.sub _ (sub_cons (sub_cons (sub_cons (sub_cons (sub_cons (sub_cons (sub_cons (sub_nil _) 108 rfl) 8 rfl) 86 rfl) 70 rfl) 3 rfl) 902 rfl) 901 rfl))
                  · try simp only [Bool.or_eq_true, Bool.and_eq_true, Bool.or_eq_false_iff, Bool.and_eq_false_iff, Bool.not_eq_true', Bool.not_eq_false', decide_eq_true_eq, decide_eq_false_iff_not, Bool.not_true, Bool.not_false] at hc126
                    refine wp_seq_k fun khK39 hK39 => ?_
                    refine wp_region_lit ?_
                    refine l_at hF rfl rfl rfl (x_eql (hF.tmp 111 rfl) rfl) ?_; clear hF; intro a hF
                    refine l_at hF rfl rfl rfl (x_assign (hF.tmp 135 rfl)) ?_; clear hF; intro a hF
                    refine wpList_nil ?_
                    refine hK39 _ _ ?_
                    refine wp_cond_split (hF.tmp 134 rfl) (fun hc134 => ?_) (fun hc134 => ?_)
                    · try simp only [Bool.or_eq_true, Bool.and_eq_true, Bool.or_eq_false_iff, Bool.and_eq_false_iff, Bool.not_eq_true', Bool.not_eq_false', decide_eq_true_eq, decide_eq_false_iff_not, Bool.not_true, Bool.not_false] at hc134
                      refine wp_region_lit ?_
                      refine l_at hF rfl rfl rfl (x_move (hF.tmp 5 rfl)) ?_; clear hF; intro a hF
                      refine l_at hF rfl rfl rfl (x_faddr Try.underlying63 rfl ty3 (by decide) (hF.tmp 3 rfl) rfl) ?_; clear hF; intro a hF
                      refine l_at hF rfl rfl rfl (x_load1 ty3 (hF.tmp 137 rfl) (blk_cell (hH.at 3 rfl) 1 rfl)) ?_; clear hF; intro a hF
                      refine wpList_plain rfl fun K hK => ?_
                      refine w_call hF (x_enter Try.func34 (by kernel_rfl) rfl (by simp only [List.map_toArray, List.map_cons, List.map_nil, hF.tmp 136 rfl, hF.tmp 138 rfl] <;> rfl)) (rem_calls _ hq0_1 (it_ok hH 70 rfl) n) rfl rfl ?_
                      rintro _ w ⟨X1_1, rfl, hD1_1, hG_⟩; refine ⟨_, rfl, ?_⟩; clear hF; intro a hF; have hH := hH.grew 70 rfl hG_ (fun k h => h.elim)
                      refine hK _ _ ?_; clear hK K
                      have hj_1 := hD1_1
                      have hj_2 := same_rem hq0_2.keys n
                      have hj_3 : ∀ i, (getM (remM m n) i).1.length ≤ 100000000 := (fun i => by have := ((hq0_2.rem n).get i).2.2; omega)
                      refine wpList_nil ?_
                      exact hJ112 _ _ X1_1 (remM m n) hj_1 hj_2 hj_3 (((((hF.bare.add hF 12 rfl).add hF 8 rfl).add hF 7 rfl).add hF 5 rfl).add hF 3 rfl) (hH.sub _ (sub_cons (sub_cons (sub_cons (sub_cons (sub_cons (sub_cons (sub_cons (sub_nil _) 108 rfl) 8 rfl) 86 rfl) 70 rfl) 3 rfl) 902 rfl) 901 rfl))
                    · try simp only [Bool.or_eq_true, Bool.and_eq_true, Bool.or_eq_false_iff, Bool.and_eq_false_iff, Bool.not_eq_true', Bool.not_eq_false', decide_eq_true_eq, decide_eq_false_iff_not, Bool.not_true, Bool.not_false] at hc134
                      have hj_1 := hq0_1
                      have hj_2 := (show SameBut n m m from fun _ _ => rfl)
                      have hj_3 : ∀ i, (getM m i).1.length ≤ 100000000 := (fun i => by have := (hq0_2.get i).2.2; omega)
                      refine wp_skip ?_
                      exact hJ112 _ _ X_ m hj_1 hj_2 hj_3 (((((hF.bare.add hF 12 rfl).add hF 8 rfl).add hF 7 rfl).add hF 5 rfl).add hF 3 rfl) (hH.sub _ (sub_cons (sub_cons (sub_cons (sub_cons (sub_cons (sub_cons (sub_cons (sub_nil _) 108 rfl) 8 rfl) 86 rfl) 70 rfl) 3 rfl) 902 rfl) 901 rfl))
      · have hc30 := hb30; try simp only [Bool.or_eq_true, Bool.and_eq_true, Bool.or_eq_false_iff, Bool.and_eq_false_iff, Bool.not_eq_true', Bool.not_eq_false', decide_eq_true_eq, decide_eq_false_iff_not, Bool.not_true, Bool.not_false] at hc30
        have hfew := hq0_2.few
        have hkl := keysL_length m
        refine l_offg hF ((wanted_of hF rfl rfl rfl rfl).trans (by rw [hb30]; rfl)) rfl rfl ?_; clear hF; intro a hF
        refine l_offg hF ((wanted_of hF rfl rfl rfl rfl).trans (by rw [hb30]; rfl)) rfl rfl ?_; clear hF; intro a hF
        refine l_at hF rfl rfl rfl (x_pickF (hF.tmp 30 rfl) hb30 rfl) ?_; clear hF; intro a hF
        refine wpList_nil ?_
        refine hK9 _ _ ?_
        refine wp_cond_false (hF.tmp 33 rfl) ?_
        refine wp_exit ?_
        refine hK6 _ _ ?_
        refine wp_seq_k fun khK40 hK40 => ?_
        refine wp_region_lit ?_
        refine l_at hF rfl rfl rfl (x_move (hF.tmp 5 rfl)) ?_; clear hF; intro a hF
        refine wpList_plain rfl fun K hK => ?_
        refine w_call hF (x_enter Try.func40 (by kernel_rfl) rfl (by simp only [List.map_toArray, List.map_cons, List.map_nil, hF.tmp 85 rfl] <;> rfl)) (segs_calls _ hq0_1 (it_ok hH 70 rfl) (by have := hq0_2.few; omega)) rfl rfl ?_
        rintro _ w ⟨v86, rfl, hm_, hr_⟩; refine ⟨_, rfl, ?_⟩; clear hF; intro a hF; have hH := Hp.rowOut hH 86 hm_ (xs := (keysL m)) hr_; obtain ⟨A86, c86, rfl⟩ := (hH.row 86 rfl).form
        refine hK _ _ ?_; clear hK K
        refine l_at hF rfl rfl rfl (x_assign (hF.tmp 86 rfl)) ?_; clear hF; intro a hF
        refine wpList_nil ?_
        refine hK40 _ _ ?_
        refine wp_seq_k fun khK41 hK41 => ?_
        refine wp_region_lit ?_
        refine l_at hF rfl rfl rfl (x_assign rfl) ?_; clear hF; intro a hF
        have hH := hH.row0 8 Rep.str 9
        refine wpList_nil ?_
        refine hK41 _ _ ?_
        refine wp_seq_k fun khK42 hK42 => ?_
        refine wp_seq_k fun khK43 hK43 => ?_
        refine wp_region_lit ?_
        refine l_at hF rfl rfl rfl (x_assign rfl) ?_; clear hF; intro a hF
        refine wpList_nil ?_
        refine hK43 _ _ ?_
        refine wp_block ?_
        refine wp_loop_ghost (fun n_ a w => ∃ j : Nat, ∃ v8 : Value, n_ = (keysL m).length - j ∧ (j ≤ (keysL m).length) ∧ Fr 183 a [(3, .pointer (some ⟨b3, 0, none⟩)), (5, .pointer (some ⟨bd1, 0, none⟩)), (7, .slice A86 (keysL m).length c86), (8, v8), (9, .int .i64 (j : Int))] ∧ Hp (fun _ => False) w0 w [(901, .rd_ ActE As script cs (fun k => k < w0.heap.size)), (902, .rd_ (.int .u8) Ab bs cb (fun k => k < w0.heap.size)), (3, .blk b3 (.cells #[.int .i64 kd, .int .i64 n, .int .i64 q, .slice Ab bs.length cb, .slice Ak mk ck] 63 (0, 0))), (70, X_), (86, .row (.int .i64) 3 (.slice A86 (keysL m).length c86) (keysL m) (fun _ => False)), (8, .row Rep.str 9 v8 (wasL m j) (fun _ => False))]) ((keysL m).length) ?_ ?_
        · exact ⟨0, .slice none 0 0, rfl, by omega, (((((hF.bare.add hF 9 rfl).add hF 8 rfl).add hF 7 rfl).add hF 5 rfl).add hF 3 rfl), hH.sub _ (sub_cons (sub_cons (sub_cons (sub_cons (sub_cons (sub_cons (sub_nil _) 8 rfl) 86 rfl) 70 rfl) 3 rfl) 902 rfl) 901 rfl)⟩
        · rintro _ a w ⟨j, v8, rfl, hq2_0, hF, hH⟩
          refine wp_seq_k fun khK44 hK44 => ?_
          refine wp_seq_k fun khK45 hK45 => ?_
          refine wp_region_lit ?_
          refine l_at hF rfl rfl rfl (x_move (hF.tmp 9 rfl)) ?_; clear hF; intro a hF
          refine l_at hF rfl rfl rfl (x_move (hF.tmp 7 rfl)) ?_; clear hF; intro a hF
          refine l_at hF rfl rfl rfl (x_len_slice Try.underlying32 (hF.tmp 88 rfl)) ?_; clear hF; intro a hF
          refine l_at hF rfl rfl rfl (x_lss (hF.tmp 87 rfl) (hF.tmp 89 rfl)) ?_; clear hF; intro a hF
          refine wpList_nil ?_
          refine hK45 _ _ ?_
          refine wp_cond_split (hF.tmp 90 rfl) (fun hc90 => ?_) (fun hc90 => ?_)
          · try simp only [Bool.or_eq_true, Bool.and_eq_true, Bool.or_eq_false_iff, Bool.and_eq_false_iff, Bool.not_eq_true', Bool.not_eq_false', decide_eq_true_eq, decide_eq_false_iff_not, Bool.not_true, Bool.not_false] at hc90
            refine wp_skip ?_
            refine hK44 _ _ ?_
            refine wp_seq_k fun khK46 hK46 => ?_
            refine wp_block ?_
            refine wp_seq_k fun khK47 hK47 => ?_
            refine wp_region_lit ?_
            refine l_at hF rfl rfl rfl (x_move (hF.tmp 5 rfl)) ?_; clear hF; intro a hF
            refine l_at hF rfl rfl rfl (x_move (hF.tmp 7 rfl)) ?_; clear hF; intro a hF
            refine l_at hF rfl rfl rfl (x_move (hF.tmp 9 rfl)) ?_; clear hF; intro a hF
            refine l_at hF rfl rfl rfl (x_iaddr_A Try.underlying32 ty3 (Row.rd (ok' := fun k_ => (fun _ => False) k_ ∨ (.slice A86 (keysL m).length c86 : Value).ownBlock = some k_) (hH.row 86 rfl) (fun _ hk_ _ => .inl hk_) (fun _ hk_ => .inr hk_)) (hF.tmp 95 rfl) (hF.tmp 96 rfl) (by omega) (by omega) _) ?_; clear hF; intro a hF
            refine l_at hF rfl rfl rfl (x_load1 ty3 (hF.tmp 97 rfl) ((Row.rd (ok' := fun k_ => (fun _ => False) k_ ∨ (.slice A86 (keysL m).length c86 : Value).ownBlock = some k_) (hH.row 86 rfl) (fun _ hk_ _ => .inl hk_) (fun _ hk_ => .inr hk_)).cellA (gi_some (i := (j : Int)) (by omega) (by omega)))) ?_; clear hF; intro a hF
            refine wpList_plain rfl fun K hK => ?_
            refine w_call hF (x_enter Try.func23 (by kernel_rfl) rfl (by simp only [List.map_toArray, List.map_cons, List.map_nil, hF.tmp 94 rfl, hF.tmp 98 rfl] <;> rfl)) (read_calls _ hq0_1 (it_ok hH 70 rfl) (gi (keysL m) (j : Int)) (fun i => by have := (hq0_2.get i).2.2; omega)) rfl rfl ?_
            rintro _ w ⟨vr93, rfl, hm_, hr_⟩; refine ⟨_, rfl, ?_⟩; clear hF; intro a hF; have hH := Hp.rowOut hH 93 hm_ hr_; obtain ⟨Ar93, cr93, rfl⟩ := (hH.row 93 rfl).form
            refine hK _ _ ?_; clear hK K
            refine l_at hF rfl rfl rfl (x_move (hF.tmp 99 rfl)) ?_; clear hF; intro a hF
            refine l_at hF rfl rfl rfl (x_extract (hF.tmp 93 rfl) rfl) ?_; clear hF; intro a hF
            refine l_at hF rfl rfl rfl (x_extract (hF.tmp 93 rfl) rfl) ?_; clear hF; intro a hF
            refine l_at hF rfl rfl rfl (x_assign (hF.tmp 100 rfl)) ?_; clear hF; intro a hF
            refine l_at hF rfl rfl rfl (x_assign (hF.tmp 101 rfl)) ?_; clear hF; intro a hF
            refine wpList_nil ?_
            refine hK47 _ _ ?_
            refine wp_region_lit ?_
            refine l_at hF rfl rfl rfl (x_move (hF.tmp 8 rfl)) ?_; clear hF; intro a hF
            refine l_at hF rfl rfl rfl (x_move (hF.tmp 10 rfl)) ?_; clear hF; intro a hF
            refine l_at hF rfl rfl rfl (x_b2s Try.underlying42 Try.underlying5 Try.underlying9 (Row.rd (ok' := fun k_ => (fun _ => False) k_ ∨ (.slice Ar93 (getM m (gi (keysL m) (j : Int))).1.length cr93 : Value).ownBlock = some k_) (hH.row 93 rfl) (fun _ hk_ _ => .inl hk_) (fun _ hk_ => .inr hk_)) (hF.tmp 103 rfl)) ?_; clear hF; intro a hF
            refine wpList_plain rfl fun K hK => ?_
            refine w_lit 105 (enc := Value.string) (h1 := fun _ => rfl) ([strOfNums (getM m (gi (keysL m) (j : Int))).1]) hF hH rfl Try.underlying68 ty9 (by simp only [List.map_toArray, List.map_cons, List.map_nil, hF.tmp 104 rfl]; rfl) rfl (by decide) (by decide) (by kernel_rfl) ?_
            clear hF hH; intro a w b105 hF hH
            refine hK _ _ ?_; clear hK K
            refine wpList_plain rfl fun K hK => ?_
            refine w_append 8 105 (xs := (wasL m j)) (ys := ([strOfNums (getM m (gi (keysL m) (j : Int))).1])) hF hH rfl Try.underlying68 ty9 rfl rfl rfl rfl (Row.rd (ok' := fun k_ => (fun _ => False) k_ ∨ (.slice (some ⟨b105, 0, none⟩) ([strOfNums (getM m (gi (keysL m) (j : Int))).1]).length ([strOfNums (getM m (gi (keysL m) (j : Int))).1]).length : Value).ownBlock = some k_) (hH.row 105 rfl) (fun _ hk_ _ => .inl hk_) (fun _ hk_ => .inr hk_)) (by rintro k_ (hk_ | hk_); exact .inr hk_; exact .inl hk_) (hF.tmp 102 rfl) (hF.tmp 105 rfl) (by rw [was_len m (by omega)]; simp only [List.length_cons, List.length_nil]; omega) (by rw [was_len m (by omega)]; simp only [List.length_cons, List.length_nil, maxLen]; omega) (fun _ => False) (fun w' v' h => row_flat h _) (fun k_ hk_ => hk_.elim) ?_
            clear hF hH; intro a w v106 hF hH
            refine hK _ _ ?_; clear hK K
            rw [was_step (by omega)] at hH
            refine l_at hF rfl rfl rfl (x_assign (hF.tmp 106 rfl)) ?_; clear hF; intro a hF
            refine wpList_nil ?_
            refine hK46 _ _ ?_
            refine wp_region_lit ?_
            refine l_at hF rfl rfl rfl (x_move (hF.tmp 9 rfl)) ?_; clear hF; intro a hF
            refine l_at hF rfl rfl rfl (x_add (hF.tmp 91 rfl) rfl (w64 (by omega) (by omega))) ?_; clear hF; intro a hF
            refine l_at hF rfl rfl rfl (x_assign (hF.tmp 92 rfl)) ?_; clear hF; intro a hF
            refine wpList_nil ?_
            exact ⟨_, by omega, ⟨j + 1, v106, rfl, by omega, (((((hF.bare.add hF 9 rfl).add hF 8 rfl).add hF 7 rfl).add hF 5 rfl).add hF 3 rfl), hH.sub _ (sub_cons (sub_cons (sub_cons (sub_cons (sub_cons (sub_cons (sub_nil _) 8 rfl) 86 rfl) 70 rfl) 3 rfl) 902 rfl) 901 rfl)⟩⟩
          · try simp only [Bool.or_eq_true, Bool.and_eq_true, Bool.or_eq_false_iff, Bool.and_eq_false_iff, Bool.not_eq_true', Bool.not_eq_false', decide_eq_true_eq, decide_eq_false_iff_not, Bool.not_true, Bool.not_false] at hc90
            obtain rfl : j = (keysL m).length := by omega
            obtain ⟨A8, c8, rfl⟩ := (hH.row 8 rfl).form
            refine wp_exit ?_
            refine hK42 _ _ ?_
            refine wp_seq_k fun khK48 hK48 => ?_
            refine wp_region_lit ?_
            refine l_at hF rfl rfl rfl (x_move (hF.tmp 5 rfl)) ?_; clear hF; intro a hF
            refine wpList_plain rfl fun K hK => ?_
            refine w_call hF (x_enter Try.func30 (by kernel_rfl) rfl (by simp only [List.map_toArray, List.map_cons, List.map_nil, hF.tmp 107 rfl] <;> rfl)) (root_calls _ hq0_1 (it_ok hH 70 rfl) (by omega)) rfl rfl ?_
            rintro _ w ⟨vr108, rfl, hm_, hr_⟩; refine ⟨_, rfl, ?_⟩; clear hF; intro a hF; have hH := Hp.rowOut hH 108 hm_ hr_; obtain ⟨Ar108, cr108, rfl⟩ := (hH.row 108 rfl).form
            refine hK _ _ ?_; clear hK K
            refine l_at hF rfl rfl rfl (x_b2s Try.underlying42 Try.underlying5 Try.underlying9 (Row.rd (ok' := fun k_ => (fun _ => False) k_ ∨ (.slice Ar108 rt.length cr108 : Value).ownBlock = some k_) (hH.row 108 rfl) (fun _ hk_ _ => .inl hk_) (fun _ hk_ => .inr hk_)) (hF.tmp 108 rfl)) ?_; clear hF; intro a hF
            refine l_at hF rfl rfl rfl (x_assign (hF.tmp 109 rfl)) ?_; clear hF; intro a hF
            refine wpList_nil ?_
            refine hK48 _ _ ?_
            refine wp_seq_k fun khK49 hK49 => ?_
            refine wp_seq_k fun khK50 hK50 => ?_
            refine wp_region_lit ?_
            refine l_at hF rfl rfl rfl (x_faddr Try.underlying63 rfl ty3 (by decide) (hF.tmp 3 rfl) rfl) ?_; clear hF; intro a hF
            refine l_at hF rfl rfl rfl (x_load1 ty3 (hF.tmp 110 rfl) (blk_cell (hH.at 3 rfl) 0 rfl)) ?_; clear hF; intro a hF
            refine wpList_nil ?_
            refine hK50 _ _ ?_
            refine wp_block ?_
            refine wp_seq_k fun khK51 hK51 => ?_
            refine wp_region_lit ?_
            refine l_at hF rfl rfl rfl (x_eql (hF.tmp 111 rfl) rfl) ?_; clear hF; intro a hF
            refine l_at hF rfl rfl rfl (x_assign (hF.tmp 113 rfl)) ?_; clear hF; intro a hF
            refine wpList_nil ?_
            refine hK51 _ _ ?_
            refine wp_norm_k fun khK52 hK52 => ?_
            have hJ112 : ∀ a w, ∀ X2 : Asn, ∀ m2 : DM, (DiskA 106 bd1 m2 rt X2) → (SameBut n m m2) → (∀ i, (getM m2 i).1.length ≤ 100000000) → Fr 183 a [(3, .pointer (some ⟨b3, 0, none⟩)), (5, .pointer (some ⟨bd1, 0, none⟩)), (7, .slice A86 (keysL m).length c86), (8, .slice A8 (wasL m (keysL m).length).length c8), (12, .string (strOfNums rt))] → Hp (fun _ => False) w0 w [(901, .rd_ ActE As script cs (fun k => k < w0.heap.size)), (902, .rd_ (.int .u8) Ab bs cb (fun k => k < w0.heap.size)), (3, .blk b3 (.cells #[.int .i64 kd, .int .i64 n, .int .i64 q, .slice Ab bs.length cb, .slice Ak mk ck] 63 (0, 0))), (70, X2), (86, .row (.int .i64) 3 (.slice A86 (keysL m).length c86) (keysL m) (fun _ => False)), (8, .row Rep.str 9 (.slice A8 (wasL m (keysL m).length).length c8) (wasL m (keysL m).length) (fun _ => False)), (108, .row (.int .u8) 5 (.slice Ar108 rt.length cr108) rt (fun _ => False))] → khK52 a w := by
              intro a w X2 m2 hj112_0 hj112_1 hj112_2 hF hH
              refine hK52 a w ?_
              refine hK49 _ _ ?_
              refine wp_seq_k fun khK53 hK53 => ?_
              refine wp_seq_k fun khK54 hK54 => ?_
              refine wp_region_lit ?_
              refine l_at hF rfl rfl rfl (x_assign rfl) ?_; clear hF; intro a hF
              refine wpList_nil ?_
              refine hK54 _ _ ?_
              refine wp_block ?_
              refine wp_loop_ghost (fun n_ a w => ∃ j : Nat, n_ = (keysL m).length - j ∧ (j ≤ (keysL m).length) ∧ Fr 183 a [(3, .pointer (some ⟨b3, 0, none⟩)), (5, .pointer (some ⟨bd1, 0, none⟩)), (7, .slice A86 (keysL m).length c86), (8, .slice A8 (wasL m (keysL m).length).length c8), (12, .string (strOfNums rt)), (13, .int .i64 (j : Int))] ∧ Hp (fun _ => False) w0 w [(901, .rd_ ActE As script cs (fun k => k < w0.heap.size)), (902, .rd_ (.int .u8) Ab bs cb (fun k => k < w0.heap.size)), (3, .blk b3 (.cells #[.int .i64 kd, .int .i64 n, .int .i64 q, .slice Ab bs.length cb, .slice Ak mk ck] 63 (0, 0))), (70, X2), (86, .row (.int .i64) 3 (.slice A86 (keysL m).length c86) (keysL m) (fun _ => False)), (8, .row Rep.str 9 (.slice A8 (wasL m (keysL m).length).length c8) (wasL m (keysL m).length) (fun _ => False)), (108, .row (.int .u8) 5 (.slice Ar108 rt.length cr108) rt (fun _ => False))]) ((keysL m).length) ?_ ?_
              · exact ⟨0, rfl, by omega, ((((((hF.bare.add hF 13 rfl).add hF 12 rfl).add hF 8 rfl).add hF 7 rfl).add hF 5 rfl).add hF 3 rfl), hH.sub _ (sub_cons (sub_cons (sub_cons (sub_cons (sub_cons (sub_cons (sub_cons (sub_nil _) 108 rfl) 8 rfl) 86 rfl) 70 rfl) 3 rfl) 902 rfl) 901 rfl)⟩
              · rintro _ a w ⟨j, rfl, hq5_0, hF, hH⟩
                refine wp_seq_k fun khK55 hK55 => ?_
                refine wp_seq_k fun khK56 hK56 => ?_
                refine wp_region_lit ?_
                refine l_at hF rfl rfl rfl (x_move (hF.tmp 13 rfl)) ?_; clear hF; intro a hF
                refine l_at hF rfl rfl rfl (x_move (hF.tmp 7 rfl)) ?_; clear hF; intro a hF
                refine l_at hF rfl rfl rfl (x_len_slice Try.underlying32 (hF.tmp 141 rfl)) ?_; clear hF; intro a hF
                refine l_at hF rfl rfl rfl (x_lss (hF.tmp 140 rfl) (hF.tmp 142 rfl)) ?_; clear hF; intro a hF
                refine wpList_nil ?_
                refine hK56 _ _ ?_
                refine wp_cond_split (hF.tmp 143 rfl) (fun hc143 => ?_) (fun hc143 => ?_)
                · try simp only [Bool.or_eq_true, Bool.and_eq_true, Bool.or_eq_false_iff, Bool.and_eq_false_iff, Bool.not_eq_true', Bool.not_eq_false', decide_eq_true_eq, decide_eq_false_iff_not, Bool.not_true, Bool.not_false] at hc143
                  refine wp_skip ?_
                  refine hK55 _ _ ?_
                  refine wp_seq_k fun khK57 hK57 => ?_
                  refine wp_block ?_
                  refine wp_seq_k fun khK58 hK58 => ?_
                  refine wp_region_lit ?_
                  refine l_at hF rfl rfl rfl (x_move (hF.tmp 5 rfl)) ?_; clear hF; intro a hF
                  refine l_at hF rfl rfl rfl (x_move (hF.tmp 7 rfl)) ?_; clear hF; intro a hF
                  refine l_at hF rfl rfl rfl (x_move (hF.tmp 13 rfl)) ?_; clear hF; intro a hF
                  refine l_at hF rfl rfl rfl (x_iaddr_A Try.underlying32 ty3 (Row.rd (ok' := fun k_ => (fun _ => False) k_ ∨ (.slice A86 (keysL m).length c86 : Value).ownBlock = some k_) (hH.row 86 rfl) (fun _ hk_ _ => .inl hk_) (fun _ hk_ => .inr hk_)) (hF.tmp 148 rfl) (hF.tmp 149 rfl) (by omega) (by omega) _) ?_; clear hF; intro a hF
                  refine l_at hF rfl rfl rfl (x_load1 ty3 (hF.tmp 150 rfl) ((Row.rd (ok' := fun k_ => (fun _ => False) k_ ∨ (.slice A86 (keysL m).length c86 : Value).ownBlock = some k_) (hH.row 86 rfl) (fun _ hk_ _ => .inl hk_) (fun _ hk_ => .inr hk_)).cellA (gi_some (i := (j : Int)) (by omega) (by omega)))) ?_; clear hF; intro a hF
                  refine wpList_plain rfl fun K hK => ?_
                  refine w_call hF (x_enter Try.func23 (by kernel_rfl) rfl (by simp only [List.map_toArray, List.map_cons, List.map_nil, hF.tmp 147 rfl, hF.tmp 151 rfl] <;> rfl)) (read_calls _ hj112_0 (it_ok hH 70 rfl) (gi (keysL m) (j : Int)) hj112_2) rfl rfl ?_
                  rintro _ w ⟨vr146, rfl, hm_, hr_⟩; refine ⟨_, rfl, ?_⟩; clear hF; intro a hF; have hH := Hp.rowOut hH 146 hm_ hr_; obtain ⟨Ar146, cr146, rfl⟩ := (hH.row 146 rfl).form
                  refine hK _ _ ?_; clear hK K
                  refine l_at hF rfl rfl rfl (x_move (hF.tmp 152 rfl)) ?_; clear hF; intro a hF
                  refine l_at hF rfl rfl rfl (x_extract (hF.tmp 146 rfl) rfl) ?_; clear hF; intro a hF
                  refine l_at hF rfl rfl rfl (x_extract (hF.tmp 146 rfl) rfl) ?_; clear hF; intro a hF
                  refine l_at hF rfl rfl rfl (x_assign (hF.tmp 153 rfl)) ?_; clear hF; intro a hF
                  refine l_at hF rfl rfl rfl (x_assign (hF.tmp 154 rfl)) ?_; clear hF; intro a hF
                  refine wpList_nil ?_
                  refine hK58 _ _ ?_
                  refine wp_seq_k fun khK59 hK59 => ?_
                  refine r_start [(3, .blk b3 (.cells #[.int .i64 kd, .int .i64 n, .int .i64 q, .slice Ab bs.length cb, .slice Ak mk ck] 63 (0, 0))), (86, .row (.int .i64) 3 (.slice A86 (keysL m).length c86) (keysL m) (fun _ => False)), (8, .row Rep.str 9 (.slice A8 (wasL m (keysL m).length).length c8) (wasL m (keysL m).length) (fun _ => False)), (146, .row (.int .u8) 5 (.slice Ar146 (getM m2 (gi (keysL m) (j : Int))).1.length cr146) (getM m2 (gi (keysL m) (j : Int))).1 (fun _ => False))] (by kernel_rfl) hH fun hH => ?_
                  have hS : SL [(3, .blk b3 (.cells #[.int .i64 kd, .int .i64 n, .int .i64 q, .slice Ab bs.length cb, .slice Ak mk ck] 63 (0, 0))), (86, .row (.int .i64) 3 (.slice A86 (keysL m).length c86) (keysL m) (fun _ => False)), (8, .row Rep.str 9 (.slice A8 (wasL m (keysL m).length).length c8) (wasL m (keysL m).length) (fun _ => False)), (146, .row (.int .u8) 5 (.slice Ar146 (getM m2 (gi (keysL m) (j : Int))).1.length cr146) (getM m2 (gi (keysL m) (j : Int))).1 (fun _ => False))] _ := SL.of hH (sub_cons (sub_cons (sub_cons (sub_cons (sub_nil _) 146 rfl) 8 rfl) 86 rfl) 3 rfl)
                  refine r_take 0 hF rfl rfl rfl (by kernel_rfl) (by kernel_rfl) (by kernel_rfl) (fun _ _ _ h => h) rfl hS (fun w hS => x_move (hF.tmp 7 rfl)) rfl ?_; clear hF; intro a hF
                  refine r_take 1 hF rfl rfl rfl (by kernel_rfl) (by kernel_rfl) (by kernel_rfl) (fun _ _ _ h => h) rfl hS (fun w hS => x_move (hF.tmp 13 rfl)) rfl ?_; clear hF; intro a hF
                  refine r_take 2 hF rfl rfl rfl (by kernel_rfl) (by kernel_rfl) (by kernel_rfl) (fun _ _ _ h => h) rfl hS (fun w hS => x_iaddr_A Try.underlying32 ty3 (Row.rd (ok' := fun k_ => (fun _ => False) k_ ∨ (.slice A86 (keysL m).length c86 : Value).ownBlock = some k_) (hH.row 86 rfl) (fun _ hk_ _ => .inl hk_) (fun _ hk_ => .inr hk_)) (hF.tmp 155 rfl) (hF.tmp 156 rfl) (by omega) (by omega) _) rfl ?_; clear hF; intro a hF
                  refine r_take 3 hF rfl rfl rfl (by kernel_rfl) (by kernel_rfl) (by kernel_rfl) (fun _ _ _ h => h) rfl hS (fun w hS => x_load1 ty3 (hF.tmp 157 rfl) ((Row.rd (ok' := fun k_ => (fun _ => False) k_ ∨ (.slice A86 (keysL m).length c86 : Value).ownBlock = some k_) (SL.row hS 86 rfl) (fun _ hk_ _ => .inl hk_) (fun _ hk_ => .inr hk_)).cellA (gi_some (i := (j : Int)) (by omega) (by omega)))) rfl ?_; clear hF; intro a hF
                  refine r_take 4 hF rfl rfl rfl (by kernel_rfl) (by kernel_rfl) (by kernel_rfl) (fun _ _ _ h => h) rfl hS (fun w hS => x_faddr Try.underlying63 rfl ty3 (by decide) (hF.tmp 3 rfl) rfl) rfl ?_; clear hF; intro a hF
                  refine r_take 5 hF rfl rfl rfl (by kernel_rfl) (by kernel_rfl) (by kernel_rfl) (fun _ _ _ h => h) rfl hS (fun w hS => x_load1 ty3 (hF.tmp 159 rfl) (blk_cell (SL.at_ hS 3 rfl) 1 rfl)) rfl ?_; clear hF; intro a hF
                  refine r_take 6 hF rfl rfl rfl (by kernel_rfl) (by kernel_rfl) (by kernel_rfl) (fun _ _ _ h => h) rfl hS (fun w hS => x_neq (hF.tmp 158 rfl) (hF.tmp 160 rfl)) rfl ?_; clear hF; intro a hF
                  refine r_take 7 hF rfl rfl rfl (by kernel_rfl) (by kernel_rfl) (by kernel_rfl) (fun _ _ _ h => h) rfl hS (fun w hS => x_move (hF.tmp 161 rfl)) rfl ?_; clear hF; intro a hF
                  refine split_bool hF 162 rfl (fun hb162 => ?_) (fun hb162 => ?_)
                  · have hc162 := hb162; try simp only [Bool.or_eq_true, Bool.and_eq_true, Bool.or_eq_false_iff, Bool.and_eq_false_iff, Bool.not_eq_true', Bool.not_eq_false', decide_eq_true_eq, decide_eq_false_iff_not, Bool.not_true, Bool.not_false] at hc162
                    have hget := hj112_1.get hc162
                    refine r_take 8 hF rfl rfl rfl (by kernel_rfl) (by kernel_rfl) (by kernel_rfl) (fun _ _ _ h => h) ((wanted_of hF rfl rfl rfl rfl).trans (by rw [hb162]; rfl)) hS (fun w hS => x_move (hF.tmp 15 rfl)) rfl ?_; clear hF; intro a hF
                    refine r_take 9 hF rfl rfl rfl (by kernel_rfl) (by kernel_rfl) (by kernel_rfl) (fun _ _ _ h => h) ((wanted_of hF rfl rfl rfl rfl).trans (by rw [hb162]; rfl)) hS (fun w hS => x_neq (hF.tmp 163 rfl) rfl) rfl ?_; clear hF; intro a hF
                    rw [show (!decide (atE m2 (gi (keysL m) (j : Int)) = 0)) = false by rw [at_of (hget.2.trans (has_of_key (gi_mem (by omega)))), decide_eq_true rfl]; rfl] at hF
                    refine r_take 10 hF rfl rfl rfl (by kernel_rfl) (by kernel_rfl) (by kernel_rfl) (fun _ _ _ h => h) ((wanted_of hF rfl rfl rfl rfl).trans (by rw [hb162]; rfl)) hS (fun w hS => x_move (hF.tmp 164 rfl)) rfl ?_; clear hF; intro a hF
                    refine r_take 11 hF rfl rfl rfl (by kernel_rfl) (by kernel_rfl) (by kernel_rfl) (fun _ _ _ h => h) ((wanted_of hF rfl rfl rfl rfl).trans rfl) hS (fun w hS => x_move (hF.tmp 14 rfl)) rfl ?_; clear hF; intro a hF
                    refine r_take 12 hF rfl rfl rfl (by kernel_rfl) (by kernel_rfl) (by kernel_rfl) (fun _ _ _ h => h) ((wanted_of hF rfl rfl rfl rfl).trans rfl) hS (fun w hS => x_b2s Try.underlying42 Try.underlying5 Try.underlying9 (Row.rd (ok' := fun k_ => (fun _ => False) k_ ∨ (.slice Ar146 (getM m2 (gi (keysL m) (j : Int))).1.length cr146 : Value).ownBlock = some k_) (SL.row hS 146 rfl) (fun _ hk_ _ => .inl hk_) (fun _ hk_ => .inr hk_)) (hF.tmp 166 rfl)) rfl ?_; clear hF; intro a hF
                    refine r_take 13 hF rfl rfl rfl (by kernel_rfl) (by kernel_rfl) (by kernel_rfl) (fun _ _ _ h => h) ((wanted_of hF rfl rfl rfl rfl).trans rfl) hS (fun w hS => x_move (hF.tmp 8 rfl)) rfl ?_; clear hF; intro a hF
                    refine r_take 14 hF rfl rfl rfl (by kernel_rfl) (by kernel_rfl) (by kernel_rfl) (fun _ _ _ h => h) ((wanted_of hF rfl rfl rfl rfl).trans rfl) hS (fun w hS => x_move (hF.tmp 13 rfl)) rfl ?_; clear hF; intro a hF
                    refine r_take 15 hF rfl rfl rfl (by kernel_rfl) (by kernel_rfl) (by kernel_rfl) (fun _ _ _ h => h) ((wanted_of hF rfl rfl rfl rfl).trans rfl) hS (fun w hS => x_iaddr_A Try.underlying68 ty9 (Row.rd (ok' := fun k_ => (fun _ => False) k_ ∨ (.slice A8 (wasL m (keysL m).length).length c8 : Value).ownBlock = some k_) (hH.row 8 rfl) (fun _ hk_ _ => .inl hk_) (fun _ hk_ => .inr hk_)) (hF.tmp 168 rfl) (hF.tmp 169 rfl) (by omega) (by rw [was_len m (Nat.le_refl _)]; omega) _) rfl ?_; clear hF; intro a hF
                    refine r_take 16 hF rfl rfl rfl (by kernel_rfl) (by kernel_rfl) (by kernel_rfl) (fun _ _ _ h => h) ((wanted_of hF rfl rfl rfl rfl).trans rfl) hS (fun w hS => x_load1 ty9 (hF.tmp 170 rfl) ((Row.rd (ok' := fun k_ => (fun _ => False) k_ ∨ (.slice A8 (wasL m (keysL m).length).length c8 : Value).ownBlock = some k_) (SL.row hS 8 rfl) (fun _ hk_ _ => .inl hk_) (fun _ hk_ => .inr hk_)).cellA (gs_some (i := (j : Int)) (by omega) (by rw [was_len m (Nat.le_refl _)]; omega)))) rfl ?_; clear hF; intro a hF
                    refine r_take 17 hF rfl rfl rfl (by kernel_rfl) (by kernel_rfl) (by kernel_rfl) (fun _ _ _ h => h) ((wanted_of hF rfl rfl rfl rfl).trans rfl) hS (fun w hS => x_nes (hF.tmp 167 rfl) (hF.tmp 171 rfl)) rfl ?_; clear hF; intro a hF
                    rw [show (!decide (strOfNums (getM m2 (gi (keysL m) (j : Int))).1 = gs (wasL m (keysL m).length) (j : Int))) = false by rw [was_at (by omega), hget.1, decide_eq_true rfl]; rfl] at hF
                    refine r_take 18 hF rfl rfl rfl (by kernel_rfl) (by kernel_rfl) (by kernel_rfl) (fun _ _ _ h => h) ((wanted_of hF rfl rfl rfl rfl).trans (by rw [hb162]; rfl)) hS (fun w hS => x_pickF (hF.tmp 165 rfl) rfl (hF.tmp 172 rfl)) rfl ?_; clear hF; intro a hF
                    refine r_take 19 hF rfl rfl rfl (by kernel_rfl) (by kernel_rfl) (by kernel_rfl) (fun _ _ _ h => h) rfl hS (fun w hS => x_pickT (hF.tmp 162 rfl) hb162 (hF.tmp 173 rfl)) rfl ?_; clear hF; intro a hF
                    refine r_end (by kernel_rfl) ?_; clear hS
                    refine hK59 _ _ ?_
                    refine wp_cond_false (hF.tmp 174 rfl) ?_
                    refine wp_skip ?_
                    refine hK57 _ _ ?_
                    refine wp_region_lit ?_
                    refine l_at hF rfl rfl rfl (x_move (hF.tmp 13 rfl)) ?_; clear hF; intro a hF
                    refine l_at hF rfl rfl rfl (x_add (hF.tmp 144 rfl) rfl (w64 (by omega) (by omega))) ?_; clear hF; intro a hF
                    refine l_at hF rfl rfl rfl (x_assign (hF.tmp 145 rfl)) ?_; clear hF; intro a hF
                    refine wpList_nil ?_
                    exact ⟨_, by omega, ⟨j + 1, rfl, by omega, ((((((hF.bare.add hF 13 rfl).add hF 12 rfl).add hF 8 rfl).add hF 7 rfl).add hF 5 rfl).add hF 3 rfl), hH.sub _ (sub_cons (sub_cons (sub_cons (sub_cons (sub_cons (sub_cons (sub_cons (sub_nil _) 108 rfl) 8 rfl) 86 rfl) 70 rfl) 3 rfl) 902 rfl) 901 rfl)⟩⟩
                  · have hc162 := hb162; try simp only [Bool.or_eq_true, Bool.and_eq_true, Bool.or_eq_false_iff, Bool.and_eq_false_iff, Bool.not_eq_true', Bool.not_eq_false', decide_eq_true_eq, decide_eq_false_iff_not, Bool.not_true, Bool.not_false] at hc162
                    refine r_off 8 hF rfl rfl rfl (by kernel_rfl) (by kernel_rfl) (by kernel_rfl) (fun _ _ _ h => h) ((wanted_of hF rfl rfl rfl rfl).trans (by rw [hb162]; rfl)) hS rfl ?_; clear hF; intro a hF
                    refine r_off 9 hF rfl rfl rfl (by kernel_rfl) (by kernel_rfl) (by kernel_rfl) (fun _ _ _ h => h) ((wanted_of hF rfl rfl rfl rfl).trans (by rw [hb162]; rfl)) hS rfl ?_; clear hF; intro a hF
                    refine r_off 10 hF rfl rfl rfl (by kernel_rfl) (by kernel_rfl) (by kernel_rfl) (fun _ _ _ h => h) ((wanted_of hF rfl rfl rfl rfl).trans (by rw [hb162]; rfl)) hS rfl ?_; clear hF; intro a hF
                    refine r_off 11 hF rfl rfl rfl (by kernel_rfl) (by kernel_rfl) (by kernel_rfl) (fun _ _ _ h => h) (wanted_un hF rfl rfl rfl rfl) hS rfl ?_; clear hF; intro a hF
                    refine r_off 12 hF rfl rfl rfl (by kernel_rfl) (by kernel_rfl) (by kernel_rfl) (fun _ _ _ h => h) (wanted_un hF rfl rfl rfl rfl) hS rfl ?_; clear hF; intro a hF
                    refine r_off 13 hF rfl rfl rfl (by kernel_rfl) (by kernel_rfl) (by kernel_rfl) (fun _ _ _ h => h) (wanted_un hF rfl rfl rfl rfl) hS rfl ?_; clear hF; intro a hF
                    refine r_off 14 hF rfl rfl rfl (by kernel_rfl) (by kernel_rfl) (by kernel_rfl) (fun _ _ _ h => h) (wanted_un hF rfl rfl rfl rfl) hS rfl ?_; clear hF; intro a hF
                    refine r_off 15 hF rfl rfl rfl (by kernel_rfl) (by kernel_rfl) (by kernel_rfl) (fun _ _ _ h => h) (wanted_un hF rfl rfl rfl rfl) hS rfl ?_; clear hF; intro a hF
                    refine r_off 16 hF rfl rfl rfl (by kernel_rfl) (by kernel_rfl) (by kernel_rfl) (fun _ _ _ h => h) (wanted_un hF rfl rfl rfl rfl) hS rfl ?_; clear hF; intro a hF
                    refine r_off 17 hF rfl rfl rfl (by kernel_rfl) (by kernel_rfl) (by kernel_rfl) (fun _ _ _ h => h) (wanted_un hF rfl rfl rfl rfl) hS rfl ?_; clear hF; intro a hF
                    refine r_off 18 hF rfl rfl rfl (by kernel_rfl) (by kernel_rfl) (by kernel_rfl) (fun _ _ _ h => h) ((wanted_of hF rfl rfl rfl rfl).trans (by rw [hb162]; rfl)) hS rfl ?_; clear hF; intro a hF
                    refine r_take 19 hF rfl rfl rfl (by kernel_rfl) (by kernel_rfl) (by kernel_rfl) (fun _ _ _ h => h) rfl hS (fun w hS => x_pickF (hF.tmp 162 rfl) hb162 rfl) rfl ?_; clear hF; intro a hF
                    refine r_end (by kernel_rfl) ?_; clear hS
                    refine hK59 _ _ ?_
                    refine wp_cond_false (hF.tmp 174 rfl) ?_
                    refine wp_skip ?_
                    refine hK57 _ _ ?_
                    refine wp_region_lit ?_
                    refine l_at hF rfl rfl rfl (x_move (hF.tmp 13 rfl)) ?_; clear hF; intro a hF
                    refine l_at hF rfl rfl rfl (x_add (hF.tmp 144 rfl) rfl (w64 (by omega) (by omega))) ?_; clear hF; intro a hF
                    refine l_at hF rfl rfl rfl (x_assign (hF.tmp 145 rfl)) ?_; clear hF; intro a hF
                    refine wpList_nil ?_
                    exact ⟨_, by omega, ⟨j + 1, rfl, by omega, ((((((hF.bare.add hF 13 rfl).add hF 12 rfl).add hF 8 rfl).add hF 7 rfl).add hF 5 rfl).add hF 3 rfl), hH.sub _ (sub_cons (sub_cons (sub_cons (sub_cons (sub_cons (sub_cons (sub_cons (sub_nil _) 108 rfl) 8 rfl) 86 rfl) 70 rfl) 3 rfl) 902 rfl) 901 rfl)⟩⟩
                · try simp only [Bool.or_eq_true, Bool.and_eq_true, Bool.or_eq_false_iff, Bool.and_eq_false_iff, Bool.not_eq_true', Bool.not_eq_false', decide_eq_true_eq, decide_eq_false_iff_not, Bool.not_true, Bool.not_false] at hc143
                  refine wp_exit ?_
                  refine hK53 _ _ ?_
                  refine wp_seq_k fun khK60 hK60 => ?_
                  refine wp_region_lit ?_
                  refine wpList_plain rfl fun K hK => ?_
                  refine w_call hF (x_enter Try.func21 (by kernel_rfl) rfl (by simp only [List.map_toArray, List.map_cons, List.map_nil] <;> rfl)) (alive_calls _) rfl rfl ?_
                  rintro _ w ⟨rfl, hm_⟩; refine ⟨_, rfl, ?_⟩; clear hF; intro a hF; have hH := hH.same hm_
                  refine hK _ _ ?_; clear hK K
                  refine l_at hF rfl rfl rfl (x_move (hF.tmp 175 rfl)) ?_; clear hF; intro a hF
                  refine l_atg hF ((wanted_of hF rfl rfl rfl rfl).trans rfl) rfl rfl (x_move (hF.tmp 5 rfl)) ?_; clear hF; intro a hF
                  refine wpList_on ((wanted_of hF rfl rfl rfl rfl).trans rfl) fun K hK => ?_
                  refine w_call hF (x_enter Try.func30 (by kernel_rfl) rfl (by simp only [List.map_toArray, List.map_cons, List.map_nil, hF.tmp 177 rfl] <;> rfl)) (root_calls _ hj112_0 (it_ok hH 70 rfl) (by omega)) rfl rfl ?_
                  rintro _ w ⟨vr178, rfl, hm_, hr_⟩; refine ⟨_, rfl, ?_⟩; clear hF; intro a hF; have hH := Hp.rowOut hH 178 hm_ hr_; obtain ⟨Ar178, cr178, rfl⟩ := (hH.row 178 rfl).form
                  refine hK _ _ ?_; clear hK K
                  refine l_atg hF ((wanted_of hF rfl rfl rfl rfl).trans rfl) rfl rfl (x_b2s Try.underlying42 Try.underlying5 Try.underlying9 (Row.rd (ok' := fun k_ => (fun _ => False) k_ ∨ (.slice Ar178 rt.length cr178 : Value).ownBlock = some k_) (hH.row 178 rfl) (fun _ hk_ _ => .inl hk_) (fun _ hk_ => .inr hk_)) (hF.tmp 178 rfl)) ?_; clear hF; intro a hF
                  refine l_atg hF ((wanted_of hF rfl rfl rfl rfl).trans rfl) rfl rfl (x_move (hF.tmp 12 rfl)) ?_; clear hF; intro a hF
                  refine l_atg hF ((wanted_of hF rfl rfl rfl rfl).trans rfl) rfl rfl (x_eqs (hF.tmp 179 rfl) (hF.tmp 180 rfl)) ?_; clear hF; intro a hF
                  rw [decide_eq_true (rfl)] at hF
                  refine l_at hF rfl rfl rfl (x_pickT (hF.tmp 176 rfl) rfl (hF.tmp 181 rfl)) ?_; clear hF; intro a hF
                  refine l_at hF rfl rfl rfl (x_assign (hF.tmp 182 rfl)) ?_; clear hF; intro a hF
                  refine wpList_nil ?_
                  refine hK60 _ _ ?_
                  refine wp_ret ?_
                  try simp only [Exit.then, Exit.inBlock]
                  exact fin_ret hF (res1 hF rfl rfl) ⟨rfl, hH.mods⟩
            refine wp_cond_split (hF.tmp 112 rfl) (fun hc112 => ?_) (fun hc112 => ?_)
            · try simp only [Bool.or_eq_true, Bool.and_eq_true, Bool.or_eq_false_iff, Bool.and_eq_false_iff, Bool.not_eq_true', Bool.not_eq_false', decide_eq_true_eq, decide_eq_false_iff_not, Bool.not_true, Bool.not_false] at hc112
              refine wp_region_lit ?_
              refine l_at hF rfl rfl rfl (x_move (hF.tmp 5 rfl)) ?_; clear hF; intro a hF
              refine l_at hF rfl rfl rfl (x_faddr Try.underlying63 rfl ty3 (by decide) (hF.tmp 3 rfl) rfl) ?_; clear hF; intro a hF
              refine l_at hF rfl rfl rfl (x_load1 ty3 (hF.tmp 115 rfl) (blk_cell (hH.at 3 rfl) 1 rfl)) ?_; clear hF; intro a hF
              refine l_at hF rfl rfl rfl (x_faddr Try.underlying63 rfl ty42 (by decide) (hF.tmp 3 rfl) rfl) ?_; clear hF; intro a hF
              refine l_at hF rfl rfl rfl (x_load1 ty42 (hF.tmp 117 rfl) (blk_cell (hH.at 3 rfl) 3 rfl)) ?_; clear hF; intro a hF
              refine wpList_plain rfl fun K hK => ?_
              refine w_call hF (x_enter Try.func22 (by kernel_rfl) rfl (by simp only [List.map_toArray, List.map_cons, List.map_nil, hF.tmp 114 rfl, hF.tmp 116 rfl, hF.tmp 118 rfl] <;> rfl)) (app_calls _ hq0_1 (it_ok hH 70 rfl) n ((hH.rd 902 rfl)) (fun k hk => hH.inb 902 _ rfl k (.inr hk)) (fun k hk h => hH.sep 70 902 _ _ (by decide) rfl rfl k h (.inr hk))) rfl rfl ?_
              rintro _ w ⟨X1_1, rfl, hD1_1, hG_⟩; refine ⟨_, rfl, ?_⟩; clear hF; intro a hF; have hH := hH.grew 70 rfl hG_ (fun k h => h.elim)
              refine hK _ _ ?_; clear hK K
              have hj_1 := hD1_1
              have hj_2 := same_app m n bs
              have hj_3 : ∀ i, (getM (appM m n bs) i).1.length ≤ 100000000 := (fun i => by have := ((hq0_2.app n bs).get i).2.2; omega)
              refine wpList_nil ?_
              exact hJ112 _ _ X1_1 (appM m n bs) hj_1 hj_2 hj_3 (((((hF.bare.add hF 12 rfl).add hF 8 rfl).add hF 7 rfl).add hF 5 rfl).add hF 3 rfl) (hH.sub _ (sub_cons (sub_cons (sub_cons (sub_cons (sub_cons (sub_cons (sub_cons (sub_nil _) 108 rfl) 8 rfl) 86 rfl) 70 rfl) 3 rfl) 902 rfl) 901 rfl))
            · try simp only [Bool.or_eq_true, Bool.and_eq_true, Bool.or_eq_false_iff, Bool.and_eq_false_iff, Bool.not_eq_true', Bool.not_eq_false', decide_eq_true_eq, decide_eq_false_iff_not, Bool.not_true, Bool.not_false] at hc112
              refine wp_seq_k fun khK61 hK61 => ?_
              refine wp_region_lit ?_
              refine l_at hF rfl rfl rfl (x_eql (hF.tmp 111 rfl) rfl) ?_; clear hF; intro a hF
              refine l_at hF rfl rfl rfl (x_assign (hF.tmp 121 rfl)) ?_; clear hF; intro a hF
              refine wpList_nil ?_
              refine hK61 _ _ ?_
              refine wp_cond_split (hF.tmp 120 rfl) (fun hc120 => ?_) (fun hc120 => ?_)
              · try simp only [Bool.or_eq_true, Bool.and_eq_true, Bool.or_eq_false_iff, Bool.and_eq_false_iff, Bool.not_eq_true', Bool.not_eq_false', decide_eq_true_eq, decide_eq_false_iff_not, Bool.not_true, Bool.not_false] at hc120
                refine wp_region_lit ?_
                refine l_at hF rfl rfl rfl (x_move (hF.tmp 5 rfl)) ?_; clear hF; intro a hF
                refine l_at hF rfl rfl rfl (x_faddr Try.underlying63 rfl ty3 (by decide) (hF.tmp 3 rfl) rfl) ?_; clear hF; intro a hF
                refine l_at hF rfl rfl rfl (x_load1 ty3 (hF.tmp 123 rfl) (blk_cell (hH.at 3 rfl) 1 rfl)) ?_; clear hF; intro a hF
                refine wpList_plain rfl fun K hK => ?_
                refine w_call hF (x_enter Try.func27 (by kernel_rfl) rfl (by simp only [List.map_toArray, List.map_cons, List.map_nil, hF.tmp 122 rfl, hF.tmp 124 rfl] <;> rfl)) (sync_calls _ hq0_1 (it_ok hH 70 rfl) n) rfl rfl ?_
                rintro _ w ⟨X1_1, rfl, hD1_1, hG_⟩; refine ⟨_, rfl, ?_⟩; clear hF; intro a hF; have hH := hH.grew 70 rfl hG_ (fun k h => h.elim)
                refine hK _ _ ?_; clear hK K
                have hj_1 := hD1_1
                have hj_2 := same_sync m n
                have hj_3 : ∀ i, (getM (syncM m n) i).1.length ≤ 100000000 := (fun i => by have := ((hq0_2.sync n).get i).2.2; omega)
                refine wpList_nil ?_
                exact hJ112 _ _ X1_1 (syncM m n) hj_1 hj_2 hj_3 (((((hF.bare.add hF 12 rfl).add hF 8 rfl).add hF 7 rfl).add hF 5 rfl).add hF 3 rfl) (hH.sub _ (sub_cons (sub_cons (sub_cons (sub_cons (sub_cons (sub_cons (sub_cons (sub_nil _) 108 rfl) 8 rfl) 86 rfl) 70 rfl) 3 rfl) 902 rfl) 901 rfl))
              · try simp only [Bool.or_eq_true, Bool.and_eq_true, Bool.or_eq_false_iff, Bool.and_eq_false_iff, Bool.not_eq_true', Bool.not_eq_false', decide_eq_true_eq, decide_eq_false_iff_not, Bool.not_true, Bool.not_false] at hc120
                refine wp_seq_k fun khK62 hK62 => ?_
                refine wp_region_lit ?_
                refine l_at hF rfl rfl rfl (x_eql (hF.tmp 111 rfl) rfl) ?_; clear hF; intro a hF
                refine l_at hF rfl rfl rfl (x_assign (hF.tmp 127 rfl)) ?_; clear hF; intro a hF
                refine wpList_nil ?_
                refine hK62 _ _ ?_
                refine wp_cond_split (hF.tmp 126 rfl) (fun hc126 => ?_) (fun hc126 => ?_)
                · try simp only [Bool.or_eq_true, Bool.and_eq_true, Bool.or_eq_false_iff, Bool.and_eq_false_iff, Bool.not_eq_true', Bool.not_eq_false', decide_eq_true_eq, decide_eq_false_iff_not, Bool.not_true, Bool.not_false] at hc126
                  refine wp_region_lit ?_
                  refine l_at hF rfl rfl rfl (x_move (hF.tmp 5 rfl)) ?_; clear hF; intro a hF
                  refine l_at hF rfl rfl rfl (x_faddr Try.underlying63 rfl ty3 (by decide) (hF.tmp 3 rfl) rfl) ?_; clear hF; intro a hF
                  refine l_at hF rfl rfl rfl (x_load1 ty3 (hF.tmp 129 rfl) (blk_cell (hH.at 3 rfl) 1 rfl)) ?_; clear hF; intro a hF
                  refine l_at hF rfl rfl rfl (x_faddr Try.underlying63 rfl ty3 (by decide) (hF.tmp 3 rfl) rfl) ?_; clear hF; intro a hF
                  refine l_at hF rfl rfl rfl (x_load1 ty3 (hF.tmp 131 rfl) (blk_cell (hH.at 3 rfl) 2 rfl)) ?_; clear hF; intro a hF
                  refine wpList_plain rfl fun K hK => ?_
                  refine w_call hF (x_enter Try.func25 (by kernel_rfl) rfl (by simp only [List.map_toArray, List.map_cons, List.map_nil, hF.tmp 128 rfl, hF.tmp 130 rfl, hF.tmp 132 rfl] <;> rfl)) (cut_calls _ hq0_1 (it_ok hH 70 rfl) n q) rfl rfl ?_
                  rintro _ w ⟨X1_1, rfl, hD1_1, hG_⟩; refine ⟨_, rfl, ?_⟩; clear hF; intro a hF; have hH := hH.grew 70 rfl hG_ (fun k h => h.elim)
                  refine hK _ _ ?_; clear hK K
                  have hj_1 := hD1_1
                  have hj_2 := same_cut m n q
                  have hj_3 : ∀ i, (getM (cutM m n q) i).1.length ≤ 100000000 := (fun i => by have := ((hq0_2.cut n q).get i).2.2; omega)
                  refine wpList_nil ?_
                  exact hJ112 _ _ X1_1 (cutM m n q) hj_1 hj_2 hj_3 (((((hF.bare.add hF 12 rfl).add hF 8 rfl).add hF 7 rfl).add hF 5 rfl).add hF 3 rfl) (hH.sub _ (sub_cons (sub_cons (sub_cons (sub_cons (sub_cons (sub_cons (sub_cons (sub_nil _) 108 rfl) 8 rfl) 86 rfl) 70 rfl) 3 rfl) 902 rfl) 901 rfl))
                · try simp only [Bool.or_eq_true, Bool.and_eq_true, Bool.or_eq_false_iff, Bool.and_eq_false_iff, Bool.not_eq_true', Bool.not_eq_false', decide_eq_true_eq, decide_eq_false_iff_not, Bool.not_true, Bool.not_false] at hc126
                  refine wp_seq_k fun khK63 hK63 => ?_
                  refine wp_region_lit ?_
                  refine l_at hF rfl rfl rfl (x_eql (hF.tmp 111 rfl) rfl) ?_; clear hF; intro a hF
                  refine l_at hF rfl rfl rfl (x_assign (hF.tmp 135 rfl)) ?_; clear hF; intro a hF
                  refine wpList_nil ?_
                  refine hK63 _ _ ?_
                  refine wp_cond_split (hF.tmp 134 rfl) (fun hc134 => ?_) (fun hc134 => ?_)
                  · try simp only [Bool.or_eq_true, Bool.and_eq_true, Bool.or_eq_false_iff, Bool.and_eq_false_iff, Bool.not_eq_true', Bool.not_eq_false', decide_eq_true_eq, decide_eq_false_iff_not, Bool.not_true, Bool.not_false] at hc134
                    refine wp_region_lit ?_
                    refine l_at hF rfl rfl rfl (x_move (hF.tmp 5 rfl)) ?_; clear hF; intro a hF
                    refine l_at hF rfl rfl rfl (x_faddr Try.underlying63 rfl ty3 (by decide) (hF.tmp 3 rfl) rfl) ?_; clear hF; intro a hF
                    refine l_at hF rfl rfl rfl (x_load1 ty3 (hF.tmp 137 rfl) (blk_cell (hH.at 3 rfl) 1 rfl)) ?_; clear hF; intro a hF
                    refine wpList_plain rfl fun K hK => ?_
                    refine w_call hF (x_enter Try.func34 (by kernel_rfl) rfl (by simp only [List.map_toArray, List.map_cons, List.map_nil, hF.tmp 136 rfl, hF.tmp 138 rfl] <;> rfl)) (rem_calls _ hq0_1 (it_ok hH 70 rfl) n) rfl rfl ?_
                    rintro _ w ⟨X1_1, rfl, hD1_1, hG_⟩; refine ⟨_, rfl, ?_⟩; clear hF; intro a hF; have hH := hH.grew 70 rfl hG_ (fun k h => h.elim)
                    refine hK _ _ ?_; clear hK K
                    have hj_1 := hD1_1
                    have hj_2 := same_rem hq0_2.keys n
                    have hj_3 : ∀ i, (getM (remM m n) i).1.length ≤ 100000000 := (fun i => by have := ((hq0_2.rem n).get i).2.2; omega)
                    refine wpList_nil ?_
                    exact hJ112 _ _ X1_1 (remM m n) hj_1 hj_2 hj_3 (((((hF.bare.add hF 12 rfl).add hF 8 rfl).add hF 7 rfl).add hF 5 rfl).add hF 3 rfl) (hH.sub _ (sub_cons (sub_cons (sub_cons (sub_cons (sub_cons (sub_cons (sub_cons (sub_nil _) 108 rfl) 8 rfl) 86 rfl) 70 rfl) 3 rfl) 902 rfl) 901 rfl))
                  · try simp only [Bool.or_eq_true, Bool.and_eq_true, Bool.or_eq_false_iff, Bool.and_eq_false_iff, Bool.not_eq_true', Bool.not_eq_false', decide_eq_true_eq, decide_eq_false_iff_not, Bool.not_true, Bool.not_false] at hc134
                    have hj_1 := hq0_1
                    have hj_2 := (show SameBut n m m from fun _ _ => rfl)
                    have hj_3 : ∀ i, (getM m i).1.length ≤ 100000000 := (fun i => by have := (hq0_2.get i).2.2; omega)
                    refine wp_skip ?_
                    exact hJ112 _ _ X_ m hj_1 hj_2 hj_3 (((((hF.bare.add hF 12 rfl).add hF 8 rfl).add hF 7 rfl).add hF 5 rfl).add hF 3 rfl) (hH.sub _ (sub_cons (sub_cons (sub_cons (sub_cons (sub_cons (sub_cons (sub_cons (sub_nil _) 108 rfl) 8 rfl) 86 rfl) 70 rfl) 3 rfl) 902 rfl) 901 rfl))

end Go.Proofs.Ytkocinnoncacgaa.Dsk
