/- The document's disk, walked. -/
import Derived.Test.YtkocinnoncacgaaDskE
import Derived.Test.YtkocinnoncacgaaDskR
set_option linter.unusedVariables false
set_option linter.unusedSimpArgs false
namespace Go.Proofs.Ytkocinnoncacgaa.Dsk
open Go.RowKit Go.Proofs.Ytkocinnoncacgaa.Sx
theorem ty59 : TyI Try.prog 59 (.slice none 0 0) 1 24 false := ⟨by kernel_rfl, _, Try.underlying59, rfl⟩
theorem ty61 : TyI Try.prog 61 (.agg #[.slice none 0 0, .slice none 0 0]) 2 48 true := ⟨by kernel_rfl, _, Try.underlying61, rfl⟩
theorem ty115 : TyI Try.prog 115 (.agg #[.int .i64 0, .slice none 0 0, .int .i64 0]) 3 40 true := ⟨by kernel_rfl, _, Try.underlying115, rfl⟩
set_option maxRecDepth 100000 in
set_option maxHeartbeats 1000000 in
theorem rfind_calls (w0 : World) {X : Asn} {bd : Nat} {S : DM} {rt : List Int} (hX : RefA 61 bd S rt X) (hok : X.ok w0) (n : Int) : Calls Try.prog 36 #[.pointer (some ⟨bd, 0, none⟩), .int .i64 n] w0 fun e w' => e = .returned (.int .i64 (fnd S n)) ∧ Mods (fun _ => False) w0 w' := by
  obtain ⟨As, cs, Ar, cr, oks, okr, rfl⟩ := hX
  refine calls_of_wp Try.func36 rfl ?_
  have hF := Fr.enter #[.pointer (some ⟨bd, 0, none⟩), .int .i64 n] 26 (slotsOf [.pointer (some ⟨bd, 0, none⟩), .int .i64 n] 0) (Nat.le_of_ble_eq_true rfl) (fun i v h => by have h2 := (get_slotsOf _ 0 i v h).2; simpa only [List.getElem?_toArray, Nat.sub_zero] using h2)
  rw [Try.ntmps36]
  revert hF; generalize (⟨(#[.pointer (some ⟨bd, 0, none⟩), .int .i64 n] : Array Value) ++ Array.replicate (26 - (#[.pointer (some ⟨bd, 0, none⟩), .int .i64 n] : Array Value).size) undef, []⟩ : Act) = a; intro hF
  have hH := ref_ro hok.holds
  have hleS := (hH.rd 2 rfl).le; have hlert := (hH.rd 3 rfl).le; unfold maxLen at hleS hlert
  refine wp_seq_k fun khK1 hK1 => ?_
  refine wp_region_lit ?_
  refine l_at hF rfl rfl rfl (x_assign rfl) ?_; clear hF; intro a hF
  refine wpList_nil ?_
  refine hK1 _ _ ?_
  refine wp_seq_k fun khK2 hK2 => ?_
  refine wp_seq_k fun khK3 hK3 => ?_
  refine wp_region_lit ?_
  refine l_at hF rfl rfl rfl (x_assign rfl) ?_; clear hF; intro a hF
  refine wpList_nil ?_
  refine hK3 _ _ ?_
  refine wp_block ?_
  refine wp_loop_ghost (fun n_ a w => ∃ j : Nat, n_ = S.length - j ∧ (j ≤ S.length) ∧ (∀ i < j, (gq S (i : Int)).1 ≠ n) ∧ Fr 26 a [(0, .pointer (some ⟨bd, 0, none⟩)), (1, .int .i64 n), (5, .int .i64 (j : Int))] ∧ Hp (fun _ => False) w0 w [(1, .ro (.blk bd (.cells #[.slice As S.length cs, .slice Ar rt.length cr] 61 (0, 0)))), (2, .rd_ SgE As S cs oks), (3, .rd_ (.int .u8) Ar rt cr okr)]) (S.length) ?_ ?_
  · exact ⟨0, rfl, by omega, by omega, (((hF.bare.add hF 5 rfl).add hF 1 rfl).add hF 0 rfl), hH.sub _ (sub_cons (sub_cons (sub_cons (sub_nil _) 3 rfl) 2 rfl) 1 rfl)⟩
  · rintro _ a w ⟨j, rfl, hq0_0, hq0_1, hF, hH⟩
    refine wp_seq_k fun khK4 hK4 => ?_
    refine wp_seq_k fun khK5 hK5 => ?_
    refine wp_region_lit ?_
    refine l_at hF rfl rfl rfl (x_move (hF.tmp 5 rfl)) ?_; clear hF; intro a hF
    refine l_at hF rfl rfl rfl (x_move (hF.tmp 0 rfl)) ?_; clear hF; intro a hF
    refine l_at hF rfl rfl rfl (x_nil (hF.tmp 7 rfl)) ?_; clear hF; intro a hF
    refine l_at hF rfl rfl rfl (x_faddr Try.underlying61 rfl ty59 (by decide) (hF.tmp 8 rfl) rfl) ?_; clear hF; intro a hF
    refine l_at hF rfl rfl rfl (x_load1 ty59 (hF.tmp 9 rfl) (blk_cell (hH.atro 1 rfl) 0 rfl)) ?_; clear hF; intro a hF
    refine l_at hF rfl rfl rfl (x_len_slice Try.underlying59 (hF.tmp 10 rfl)) ?_; clear hF; intro a hF
    refine l_at hF rfl rfl rfl (x_lss (hF.tmp 6 rfl) (hF.tmp 11 rfl)) ?_; clear hF; intro a hF
    refine wpList_nil ?_
    refine hK5 _ _ ?_
    refine wp_cond_split (hF.tmp 12 rfl) (fun hc12 => ?_) (fun hc12 => ?_)
    · try simp only [Bool.or_eq_true, Bool.and_eq_true, Bool.or_eq_false_iff, Bool.and_eq_false_iff, Bool.not_eq_true', Bool.not_eq_false', decide_eq_true_eq, decide_eq_false_iff_not, Bool.not_true, Bool.not_false] at hc12
      refine wp_skip ?_
      refine hK4 _ _ ?_
      refine wp_seq_k fun khK6 hK6 => ?_
      refine wp_block ?_
      refine wp_seq_k fun khK7 hK7 => ?_
      refine wp_region_lit ?_
      obtain ⟨fA1, fc1, hfr1, hf1_0, hf1_1, hf1_2, hfw1⟩ := rd_sg ((hH.rd 2 rfl)) (gq_some (xs := S) (i := (j : Int)) (by omega) (by omega))
      have hH := hH.subrd 2 rfl 1001 hfr1 (fun _ h => h)
      have hH := hH.subcel 2 rfl 1500 hf1_0 (Rd.inok ((hH.rd 2 rfl)) (by omega) _)
      have hH := hH.subcel 2 rfl 1501 hf1_1 (Rd.inok ((hH.rd 2 rfl)) (by omega) _)
      have hH := hH.subcel 2 rfl 1502 hf1_2 (Rd.inok ((hH.rd 2 rfl)) (by omega) _)
      refine l_at hF rfl rfl rfl (x_move (hF.tmp 0 rfl)) ?_; clear hF; intro a hF
      refine l_at hF rfl rfl rfl (x_nil (hF.tmp 15 rfl)) ?_; clear hF; intro a hF
      refine l_at hF rfl rfl rfl (x_faddr Try.underlying61 rfl ty59 (by decide) (hF.tmp 16 rfl) rfl) ?_; clear hF; intro a hF
      refine l_at hF rfl rfl rfl (x_load1 ty59 (hF.tmp 17 rfl) (blk_cell (hH.atro 1 rfl) 0 rfl)) ?_; clear hF; intro a hF
      refine l_at hF rfl rfl rfl (x_move (hF.tmp 5 rfl)) ?_; clear hF; intro a hF
      refine l_at hF rfl rfl rfl (x_iaddr_A Try.underlying59 ty115 ((hH.rd 2 rfl)) (hF.tmp 18 rfl) (hF.tmp 19 rfl) (by omega) (by omega) _) ?_; clear hF; intro a hF
      refine l_at hF rfl rfl rfl (x_faddrA ((hH.rd 2 rfl)) (by omega) _ Try.underlying115 rfl ty3 (by decide) (hF.tmp 20 rfl) rfl) ?_; clear hF; intro a hF
      refine l_at hF rfl rfl rfl (x_load1 ty3 (hF.tmp 21 rfl) (hH.holds 1500 _ rfl)) ?_; clear hF; intro a hF
      refine l_at hF rfl rfl rfl (x_move (hF.tmp 1 rfl)) ?_; clear hF; intro a hF
      refine l_at hF rfl rfl rfl (x_eql (hF.tmp 22 rfl) (hF.tmp 23 rfl)) ?_; clear hF; intro a hF
      refine wpList_nil ?_
      refine hK7 _ _ ?_
      refine wp_cond_split (hF.tmp 24 rfl) (fun hc24 => ?_) (fun hc24 => ?_)
      · try simp only [Bool.or_eq_true, Bool.and_eq_true, Bool.or_eq_false_iff, Bool.and_eq_false_iff, Bool.not_eq_true', Bool.not_eq_false', decide_eq_true_eq, decide_eq_false_iff_not, Bool.not_true, Bool.not_false] at hc24
        refine wp_seq_k fun khK8 hK8 => ?_
        refine wp_region_lit ?_
        refine l_at hF rfl rfl rfl (x_move (hF.tmp 5 rfl)) ?_; clear hF; intro a hF
        refine l_at hF rfl rfl rfl (x_assign (hF.tmp 25 rfl)) ?_; clear hF; intro a hF
        refine wpList_nil ?_
        refine hK8 _ _ ?_
        refine wp_ret ?_
        try simp only [Exit.then, Exit.inBlock]
        exact fin_ret hF (res1 hF rfl rfl) ⟨congrArg (fun z => Ending.returned (.int .i64 z)) (fnd_yes (by omega) hq0_1 hc24).symm, hH.mods⟩
      · try simp only [Bool.or_eq_true, Bool.and_eq_true, Bool.or_eq_false_iff, Bool.and_eq_false_iff, Bool.not_eq_true', Bool.not_eq_false', decide_eq_true_eq, decide_eq_false_iff_not, Bool.not_true, Bool.not_false] at hc24
        have hb2 : ∀ i < j + 1, (gq S (i : Int)).1 ≠ n := fun i hi => by
          by_cases e : i = j
          · subst e; exact hc24
          · exact hq0_1 i (by omega)
        refine wp_skip ?_
        refine hK6 _ _ ?_
        refine wp_region_lit ?_
        refine l_at hF rfl rfl rfl (x_move (hF.tmp 5 rfl)) ?_; clear hF; intro a hF
        refine l_at hF rfl rfl rfl (x_add (hF.tmp 13 rfl) rfl (w64 (by omega) (by omega))) ?_; clear hF; intro a hF
        refine l_at hF rfl rfl rfl (x_assign (hF.tmp 14 rfl)) ?_; clear hF; intro a hF
        refine wpList_nil ?_
        exact ⟨_, by omega, ⟨j + 1, rfl, by omega, hb2, (((hF.bare.add hF 5 rfl).add hF 1 rfl).add hF 0 rfl), hH.sub _ (sub_cons (sub_cons (sub_cons (sub_nil _) 3 rfl) 2 rfl) 1 rfl)⟩⟩
    · try simp only [Bool.or_eq_true, Bool.and_eq_true, Bool.or_eq_false_iff, Bool.and_eq_false_iff, Bool.not_eq_true', Bool.not_eq_false', decide_eq_true_eq, decide_eq_false_iff_not, Bool.not_true, Bool.not_false] at hc12
      obtain rfl : j = S.length := by omega
      refine wp_exit ?_
      refine hK2 _ _ ?_
      refine wp_seq_k fun khK9 hK9 => ?_
      refine wp_region_lit ?_
      refine l_at hF rfl rfl rfl (x_assign rfl) ?_; clear hF; intro a hF
      refine wpList_nil ?_
      refine hK9 _ _ ?_
      refine wp_ret ?_
      try simp only [Exit.then, Exit.inBlock]
      exact fin_ret hF (res1 hF rfl rfl) ⟨congrArg (fun z => Ending.returned (.int .i64 z)) (fnd_no hq0_1).symm, hH.mods⟩

set_option maxRecDepth 100000 in
set_option maxHeartbeats 1000000 in
theorem rwith_calls (w0 : World) {X : Asn} {bd : Nat} {S : DM} {rt : List Int} (hX : RefA 61 bd S rt X) (hok : X.ok w0) (hSl : S.length ≤ 1000) (x : Int × Seg) {okx : Nat → Prop} {Ax : Option Addr} {cx : Nat} (hrx : Rd (.int .u8) w0 okx Ax x.2.1 cx) (hxin : ∀ k, okx k → k < w0.heap.size) (hxs : ∀ k, okx k → ¬ X.own k) : Calls Try.prog 70 #[.pointer (some ⟨bd, 0, none⟩), .agg #[.int .i64 x.1, .slice Ax x.2.1.length cx, .int .i64 x.2.2]] w0 fun e w' => ∃ X', e = .returned (.tuple #[]) ∧ RefA 61 bd (withR S x) rt X' ∧ Grew (fun _ => False) okx X w0 w' X' := by
  obtain ⟨As, cs, Ar, cr, oks, okr, rfl⟩ := hX
  refine calls_of_wp Try.func70 rfl ?_
  have hF := Fr.enter #[.pointer (some ⟨bd, 0, none⟩), .agg #[.int .i64 x.1, .slice Ax x.2.1.length cx, .int .i64 x.2.2]] 75 (slotsOf [.pointer (some ⟨bd, 0, none⟩), .agg #[.int .i64 x.1, .slice Ax x.2.1.length cx, .int .i64 x.2.2]] 0) (Nat.le_of_ble_eq_true rfl) (fun i v h => by have h2 := (get_slotsOf _ 0 i v h).2; simpa only [List.getElem?_toArray, Nat.sub_zero] using h2)
  rw [Try.ntmps70]
  revert hF; generalize (⟨(#[.pointer (some ⟨bd, 0, none⟩), .agg #[.int .i64 x.1, .slice Ax x.2.1.length cx, .int .i64 x.2.2]] : Array Value) ++ Array.replicate (75 - (#[.pointer (some ⟨bd, 0, none⟩), .agg #[.int .i64 x.1, .slice Ax x.2.1.length cx, .int .i64 x.2.2]] : Array Value).size) undef, []⟩ : Act) = a; intro hF
  have hH := Hp.ofAll hok.holds
  have hleS := (hH.rd 2 rfl).le; have hlert := (hH.rd 3 rfl).le; unfold maxLen at hleS hlert
  have hH := hH.readable 905 hrx hxin (fun i A_ hA k hk hk2 => hxs k hk2 ⟨i, A_, hA, hk⟩)
  refine wp_seq_k fun khK1 hK1 => ?_
  refine wp_region_lit ?_
  refine wpList_plain rfl fun K hK => ?_
  refine w_box 33 hF hH rfl (hF.tmp 1 rfl) ?_
  clear hF hH; intro a w b3 hF hH
  refine hK _ _ ?_; clear hK K
  refine wpList_nil ?_
  refine hK1 _ _ ?_
  refine wp_seq_k fun khK2 hK2 => ?_
  refine wp_region_lit ?_
  refine l_at hF rfl rfl rfl (x_assign rfl) ?_; clear hF; intro a hF
  have hH := hH.row0 4 SgE 115
  refine wpList_nil ?_
  refine hK2 _ _ ?_
  refine wp_seq_k fun khK3 hK3 => ?_
  refine wp_seq_k fun khK4 hK4 => ?_
  refine wp_region_lit ?_
  refine l_at hF rfl rfl rfl (x_assign rfl) ?_; clear hF; intro a hF
  refine wpList_nil ?_
  refine hK4 _ _ ?_
  refine wp_block ?_
  refine wp_loop_ghost (fun n_ a w => ∃ j : Nat, ∃ A_ : Option Addr, ∃ c_ : Nat, ∃ okv : Nat → Prop, n_ = S.length - j ∧ (j ≤ S.length) ∧ (∀ k, okv k → (OwnL [(1, .blk bd (.cells #[.slice As S.length cs, .slice Ar rt.length cr] 61 (0, 0))), (2, .rd_ SgE As S cs oks), (3, .rd_ (.int .u8) Ar rt cr okr)]) k ∨ oks k ∨ okx k ∨ w0.heap.size ≤ k) ∧ Fr 75 a [(0, .pointer (some ⟨bd, 0, none⟩)), (3, .pointer (some ⟨b3, 0, none⟩)), (4, .slice A_ (ltR S x.1 j).length c_), (5, .int .i64 (j : Int))] ∧ Hp (OwnL [(1, .blk bd (.cells #[.slice As S.length cs, .slice Ar rt.length cr] 61 (0, 0))), (2, .rd_ SgE As S cs oks), (3, .rd_ (.int .u8) Ar rt cr okr)]) w0 w [(1, .blk bd (.cells #[.slice As S.length cs, .slice Ar rt.length cr] 61 (0, 0))), (2, .rd_ SgE As S cs oks), (3, .rd_ (.int .u8) Ar rt cr okr), (905, .rd_ (.int .u8) Ax x.2.1 cx okx), (33, .blk b3 (.cells #[.int .i64 x.1, .slice Ax x.2.1.length cx, .int .i64 x.2.2] 115 (0, 0))), (4, .row SgE 115 (.slice A_ (ltR S x.1 j).length c_) (ltR S x.1 j) okv)]) (S.length) ?_ ?_
  · exact ⟨0, none, 0, (fun _ => False), rfl, by omega, fun k h => h.elim, ((((hF.bare.add hF 5 rfl).add hF 4 rfl).add hF 3 rfl).add hF 0 rfl), hH.sub _ (sub_cons (sub_cons (sub_cons (sub_cons (sub_cons (sub_cons (sub_nil _) 4 rfl) 33 rfl) 905 rfl) 3 rfl) 2 rfl) 1 rfl)⟩
  · rintro _ a w ⟨j, A_, c_, okv, rfl, hq0_0, hq0_1, hF, hH⟩
    refine wp_seq_k fun khK5 hK5 => ?_
    refine wp_seq_k fun khK6 hK6 => ?_
    refine wp_region_lit ?_
    refine l_at hF rfl rfl rfl (x_move (hF.tmp 5 rfl)) ?_; clear hF; intro a hF
    refine l_at hF rfl rfl rfl (x_move (hF.tmp 0 rfl)) ?_; clear hF; intro a hF
    refine l_at hF rfl rfl rfl (x_nil (hF.tmp 8 rfl)) ?_; clear hF; intro a hF
    refine l_at hF rfl rfl rfl (x_faddr Try.underlying61 rfl ty59 (by decide) (hF.tmp 9 rfl) rfl) ?_; clear hF; intro a hF
    refine l_at hF rfl rfl rfl (x_load1 ty59 (hF.tmp 10 rfl) (blk_cell (hH.at 1 rfl) 0 rfl)) ?_; clear hF; intro a hF
    refine l_at hF rfl rfl rfl (x_len_slice Try.underlying59 (hF.tmp 11 rfl)) ?_; clear hF; intro a hF
    refine l_at hF rfl rfl rfl (x_lss (hF.tmp 7 rfl) (hF.tmp 12 rfl)) ?_; clear hF; intro a hF
    refine wpList_nil ?_
    refine hK6 _ _ ?_
    refine wp_cond_split (hF.tmp 13 rfl) (fun hc13 => ?_) (fun hc13 => ?_)
    · try simp only [Bool.or_eq_true, Bool.and_eq_true, Bool.or_eq_false_iff, Bool.and_eq_false_iff, Bool.not_eq_true', Bool.not_eq_false', decide_eq_true_eq, decide_eq_false_iff_not, Bool.not_true, Bool.not_false] at hc13
      obtain ⟨fA1, fc1, hfr1, hf1_0, hf1_1, hf1_2, hfw1⟩ := rd_sg ((hH.rd 2 rfl)) (gq_some (xs := S) (i := (j : Int)) (by omega) (by omega))
      have hH := hH.subrd 2 rfl 1001 hfr1 (fun _ h => h)
      have hH := hH.subcel 2 rfl 1500 hf1_0 (Rd.inok ((hH.rd 2 rfl)) (by omega) _)
      have hH := hH.subcel 2 rfl 1501 hf1_1 (Rd.inok ((hH.rd 2 rfl)) (by omega) _)
      have hH := hH.subcel 2 rfl 1502 hf1_2 (Rd.inok ((hH.rd 2 rfl)) (by omega) _)
      refine wp_skip ?_
      refine hK5 _ _ ?_
      refine wp_seq_k fun khK7 hK7 => ?_
      refine wp_block ?_
      refine wp_seq_k fun khK8 hK8 => ?_
      refine r_start [(1, .blk bd (.cells #[.slice As S.length cs, .slice Ar rt.length cr] 61 (0, 0))), (2, .rd_ SgE As S cs oks), (33, .blk b3 (.cells #[.int .i64 x.1, .slice Ax x.2.1.length cx, .int .i64 x.2.2] 115 (0, 0))), (1500, .cel (adr As ((j : Int).toNat * 3)) (.int .i64 (gq S (j : Int)).1))] (by kernel_rfl) hH fun hH => ?_
      have hS : SL [(1, .blk bd (.cells #[.slice As S.length cs, .slice Ar rt.length cr] 61 (0, 0))), (2, .rd_ SgE As S cs oks), (33, .blk b3 (.cells #[.int .i64 x.1, .slice Ax x.2.1.length cx, .int .i64 x.2.2] 115 (0, 0))), (1500, .cel (adr As ((j : Int).toNat * 3)) (.int .i64 (gq S (j : Int)).1))] _ := SL.of hH (sub_cons (sub_cons (sub_cons (sub_cons (sub_nil _) 1500 rfl) 33 rfl) 2 rfl) 1 rfl)
      refine r_take 0 hF rfl rfl rfl (by kernel_rfl) (by kernel_rfl) (by kernel_rfl) (fun _ _ _ h => h) rfl hS (fun w hS => x_move (hF.tmp 0 rfl)) rfl ?_; clear hF; intro a hF
      refine r_take 1 hF rfl rfl rfl (by kernel_rfl) (by kernel_rfl) (by kernel_rfl) (fun _ _ _ h => h) rfl hS (fun w hS => x_nil (hF.tmp 16 rfl)) rfl ?_; clear hF; intro a hF
      refine r_take 2 hF rfl rfl rfl (by kernel_rfl) (by kernel_rfl) (by kernel_rfl) (fun _ _ _ h => h) rfl hS (fun w hS => x_faddr Try.underlying61 rfl ty59 (by decide) (hF.tmp 17 rfl) rfl) rfl ?_; clear hF; intro a hF
      refine r_take 3 hF rfl rfl rfl (by kernel_rfl) (by kernel_rfl) (by kernel_rfl) (fun _ _ _ h => h) rfl hS (fun w hS => x_load1 ty59 (hF.tmp 18 rfl) (blk_cell (SL.at_ hS 1 rfl) 0 rfl)) rfl ?_; clear hF; intro a hF
      refine r_take 4 hF rfl rfl rfl (by kernel_rfl) (by kernel_rfl) (by kernel_rfl) (fun _ _ _ h => h) rfl hS (fun w hS => x_move (hF.tmp 5 rfl)) rfl ?_; clear hF; intro a hF
      refine r_take 5 hF rfl rfl rfl (by kernel_rfl) (by kernel_rfl) (by kernel_rfl) (fun _ _ _ h => h) rfl hS (fun w hS => x_iaddr_A Try.underlying59 ty115 ((hH.rd 2 rfl)) (hF.tmp 19 rfl) (hF.tmp 20 rfl) (by omega) (by omega) _) rfl ?_; clear hF; intro a hF
      refine r_take 6 hF rfl rfl rfl (by kernel_rfl) (by kernel_rfl) (by kernel_rfl) (fun _ _ _ h => h) rfl hS (fun w hS => x_faddrA ((SL.rd hS 2 rfl)) (by omega) _ Try.underlying115 rfl ty3 (by decide) (hF.tmp 21 rfl) rfl) rfl ?_; clear hF; intro a hF
      refine r_take 7 hF rfl rfl rfl (by kernel_rfl) (by kernel_rfl) (by kernel_rfl) (fun _ _ _ h => h) rfl hS (fun w hS => x_load1 ty3 (hF.tmp 22 rfl) (hS 1500 _ rfl)) rfl ?_; clear hF; intro a hF
      refine r_take 8 hF rfl rfl rfl (by kernel_rfl) (by kernel_rfl) (by kernel_rfl) (fun _ _ _ h => h) rfl hS (fun w hS => x_faddr Try.underlying115 rfl ty3 (by decide) (hF.tmp 3 rfl) rfl) rfl ?_; clear hF; intro a hF
      refine r_take 9 hF rfl rfl rfl (by kernel_rfl) (by kernel_rfl) (by kernel_rfl) (fun _ _ _ h => h) rfl hS (fun w hS => x_load1 ty3 (hF.tmp 24 rfl) (blk_cell (SL.at_ hS 33 rfl) 0 rfl)) rfl ?_; clear hF; intro a hF
      refine r_take 10 hF rfl rfl rfl (by kernel_rfl) (by kernel_rfl) (by kernel_rfl) (fun _ _ _ h => h) rfl hS (fun w hS => x_lss (hF.tmp 23 rfl) (hF.tmp 25 rfl)) rfl ?_; clear hF; intro a hF
      refine r_end (by kernel_rfl) ?_; clear hS
      refine hK8 _ _ ?_
      refine wp_cond_split (hF.tmp 26 rfl) (fun hc26 => ?_) (fun hc26 => ?_)
      · try simp only [Bool.or_eq_true, Bool.and_eq_true, Bool.or_eq_false_iff, Bool.and_eq_false_iff, Bool.not_eq_true', Bool.not_eq_false', decide_eq_true_eq, decide_eq_false_iff_not, Bool.not_true, Bool.not_false] at hc26
        refine wp_region_lit ?_
        refine l_at hF rfl rfl rfl (x_move (hF.tmp 4 rfl)) ?_; clear hF; intro a hF
        refine l_at hF rfl rfl rfl (x_move (hF.tmp 0 rfl)) ?_; clear hF; intro a hF
        refine l_at hF rfl rfl rfl (x_nil (hF.tmp 28 rfl)) ?_; clear hF; intro a hF
        refine l_at hF rfl rfl rfl (x_faddr Try.underlying61 rfl ty59 (by decide) (hF.tmp 29 rfl) rfl) ?_; clear hF; intro a hF
        refine l_at hF rfl rfl rfl (x_load1 ty59 (hF.tmp 30 rfl) (blk_cell (hH.at 1 rfl) 0 rfl)) ?_; clear hF; intro a hF
        refine l_at hF rfl rfl rfl (x_move (hF.tmp 5 rfl)) ?_; clear hF; intro a hF
        refine l_at hF rfl rfl rfl (x_iaddr_A Try.underlying59 ty115 ((hH.rd 2 rfl)) (hF.tmp 31 rfl) (hF.tmp 32 rfl) (by omega) (by omega) _) ?_; clear hF; intro a hF
        refine l_at hF rfl rfl rfl (x_loadn ty115 (hF.tmp 33 rfl) rfl hfw1) ?_; clear hF; intro a hF
        refine wpList_plain rfl fun K hK => ?_
        refine w_lit1 35 SgE (gq S (j : Int)) #[(.int .i64 (gq S (j : Int)).1), .slice fA1 (gq S (j : Int)).2.1.length fc1, .int .i64 (gq S (j : Int)).2.2] oks hF hH rfl Try.underlying59 ty115 (by simp only [List.map_toArray, List.map_cons, List.map_nil, hF.tmp 34 rfl] <;> rfl) (by decide) (by kernel_rfl) (sg_mk (x := (gq S (j : Int))) (hH.rd 1001 rfl)) (fun k hk => ⟨2, _, rfl, hk⟩) ?_
        clear hF hH; intro a w b35 hF hb35_ hH
        refine hK _ _ ?_; clear hK K
        refine wpList_plain rfl fun K hK => ?_
        refine w_append 4 35 (xs := (ltR S x.1 j)) (ys := ([(gq S (j : Int))])) hF hH rfl Try.underlying59 ty115 rfl rfl rfl rfl ((hH.rd 35 rfl)) (by intro k_ hk_; exact .inr hk_) (hF.tmp 27 rfl) (hF.tmp 35 rfl) (by have h1 := lt_len S x.1 j; have h2 := gt_len S x.1 j; simp only [List.length_append, List.length_cons, List.length_nil]; omega) (by have h1 := lt_len S x.1 j; have h2 := gt_len S x.1 j; simp only [List.length_append, List.length_cons, List.length_nil, maxLen]; omega) (fun k => okv k ∨ (fun k => oks k ∨ k = b35) k) (fun w' v' h => h) (by rintro k_ (hk_ | hk_); exact .inl hk_; exact .inr hk_) ?_
        clear hF hH; intro a w v36 hF hH
        refine hK _ _ ?_; clear hK K
        obtain ⟨A36, c36, rfl⟩ := (hH.row 4 rfl).form
        have hok36 : ∀ k, (fun k => okv k ∨ (fun k => oks k ∨ k = b35) k) k → (OwnL [(1, .blk bd (.cells #[.slice As S.length cs, .slice Ar rt.length cr] 61 (0, 0))), (2, .rd_ SgE As S cs oks), (3, .rd_ (.int .u8) Ar rt cr okr)]) k ∨ oks k ∨ okx k ∨ w0.heap.size ≤ k := by
          rintro k (h | h | h)
          · exact hq0_1 k h
          · exact .inr (.inl h)
          · subst h; exact hb35_.elim .inl (fun h => .inr (.inr (.inr h)))
        rw [lt_yes (by omega) hc26] at hF hH
        refine l_at hF rfl rfl rfl (x_assign (hF.tmp 36 rfl)) ?_; clear hF; intro a hF
        refine wpList_nil ?_
        refine hK7 _ _ ?_
        refine wp_region_lit ?_
        refine l_at hF rfl rfl rfl (x_move (hF.tmp 5 rfl)) ?_; clear hF; intro a hF
        refine l_at hF rfl rfl rfl (x_add (hF.tmp 14 rfl) rfl (w64 (by omega) (by omega))) ?_; clear hF; intro a hF
        refine l_at hF rfl rfl rfl (x_assign (hF.tmp 15 rfl)) ?_; clear hF; intro a hF
        refine wpList_nil ?_
        exact ⟨_, by omega, ⟨j + 1, A36, c36, _, rfl, by omega, hok36, ((((hF.bare.add hF 5 rfl).add hF 4 rfl).add hF 3 rfl).add hF 0 rfl), hH.sub _ (sub_cons (sub_cons (sub_cons (sub_cons (sub_cons (sub_cons (sub_nil _) 4 rfl) 33 rfl) 905 rfl) 3 rfl) 2 rfl) 1 rfl)⟩⟩
      · try simp only [Bool.or_eq_true, Bool.and_eq_true, Bool.or_eq_false_iff, Bool.and_eq_false_iff, Bool.not_eq_true', Bool.not_eq_false', decide_eq_true_eq, decide_eq_false_iff_not, Bool.not_true, Bool.not_false] at hc26
        rw [lt_no (by omega) hc26] at hF hH
        refine wp_skip ?_
        refine hK7 _ _ ?_
        refine wp_region_lit ?_
        refine l_at hF rfl rfl rfl (x_move (hF.tmp 5 rfl)) ?_; clear hF; intro a hF
        refine l_at hF rfl rfl rfl (x_add (hF.tmp 14 rfl) rfl (w64 (by omega) (by omega))) ?_; clear hF; intro a hF
        refine l_at hF rfl rfl rfl (x_assign (hF.tmp 15 rfl)) ?_; clear hF; intro a hF
        refine wpList_nil ?_
        exact ⟨_, by omega, ⟨j + 1, A_, c_, _, rfl, by omega, hq0_1, ((((hF.bare.add hF 5 rfl).add hF 4 rfl).add hF 3 rfl).add hF 0 rfl), hH.sub _ (sub_cons (sub_cons (sub_cons (sub_cons (sub_cons (sub_cons (sub_nil _) 4 rfl) 33 rfl) 905 rfl) 3 rfl) 2 rfl) 1 rfl)⟩⟩
    · try simp only [Bool.or_eq_true, Bool.and_eq_true, Bool.or_eq_false_iff, Bool.and_eq_false_iff, Bool.not_eq_true', Bool.not_eq_false', decide_eq_true_eq, decide_eq_false_iff_not, Bool.not_true, Bool.not_false] at hc13
      obtain rfl : j = S.length := by omega
      refine wp_exit ?_
      refine hK3 _ _ ?_
      refine wp_seq_k fun khK9 hK9 => ?_
      refine wp_region_lit ?_
      refine l_at hF rfl rfl rfl (x_move (hF.tmp 4 rfl)) ?_; clear hF; intro a hF
      refine l_at hF rfl rfl rfl (x_loadn ty115 (hF.tmp 3 rfl) rfl (blk_whole (hH.at 33 rfl))) ?_; clear hF; intro a hF
      refine wpList_plain rfl fun K hK => ?_
      refine w_lit1 39 SgE x #[.int .i64 x.1, .slice Ax x.2.1.length cx, .int .i64 x.2.2] okx hF hH rfl Try.underlying59 ty115 (by simp only [List.map_toArray, List.map_cons, List.map_nil, hF.tmp 38 rfl] <;> rfl) (by decide) (by kernel_rfl) (sg_mk (x := x) (hH.rd 905 rfl)) (fun k hk => ⟨905, _, rfl, hk⟩) ?_
      clear hF hH; intro a w b39 hF hb39_ hH
      refine hK _ _ ?_; clear hK K
      refine wpList_plain rfl fun K hK => ?_
      refine w_append 4 39 (xs := (ltR S x.1 S.length)) (ys := ([x])) hF hH rfl Try.underlying59 ty115 rfl rfl rfl rfl ((hH.rd 39 rfl)) (by intro k_ hk_; exact .inr hk_) (hF.tmp 37 rfl) (hF.tmp 39 rfl) (by have h1 := lt_len S x.1 S.length; have h2 := gt_len S x.1 0; simp only [List.length_append, List.length_cons, List.length_nil]; omega) (by have h1 := lt_len S x.1 S.length; have h2 := gt_len S x.1 0; simp only [List.length_append, List.length_cons, List.length_nil, maxLen]; omega) (fun k => okv k ∨ (fun k => okx k ∨ k = b39) k) (fun w' v' h => h) (by rintro k_ (hk_ | hk_); exact .inl hk_; exact .inr hk_) ?_
      clear hF hH; intro a w v40 hF hH
      refine hK _ _ ?_; clear hK K
      obtain ⟨A40, c40, rfl⟩ := (hH.row 4 rfl).form
      have hok40 : ∀ k, (fun k => okv k ∨ (fun k => okx k ∨ k = b39) k) k → (OwnL [(1, .blk bd (.cells #[.slice As S.length cs, .slice Ar rt.length cr] 61 (0, 0))), (2, .rd_ SgE As S cs oks), (3, .rd_ (.int .u8) Ar rt cr okr)]) k ∨ oks k ∨ okx k ∨ w0.heap.size ≤ k := by
        rintro k (h | h | h)
        · exact hq0_1 k h
        · exact .inr (.inr (.inl h))
        · subst h; exact hb39_.elim .inl (fun h => .inr (.inr (.inr h)))
      rw [gt_none S (ltR S x.1 S.length ++ [x]) x.1] at hF hH
      refine l_at hF rfl rfl rfl (x_assign (hF.tmp 40 rfl)) ?_; clear hF; intro a hF
      refine wpList_nil ?_
      refine hK9 _ _ ?_
      refine wp_seq_k fun khK10 hK10 => ?_
      refine wp_seq_k fun khK11 hK11 => ?_
      refine wp_region_lit ?_
      refine l_at hF rfl rfl rfl (x_assign rfl) ?_; clear hF; intro a hF
      refine wpList_nil ?_
      refine hK11 _ _ ?_
      refine wp_block ?_
      refine wp_loop_ghost (fun n_ a w => ∃ j : Nat, ∃ A_ : Option Addr, ∃ c_ : Nat, ∃ okv : Nat → Prop, n_ = S.length - j ∧ (j ≤ S.length) ∧ (∀ k, okv k → (OwnL [(1, .blk bd (.cells #[.slice As S.length cs, .slice Ar rt.length cr] 61 (0, 0))), (2, .rd_ SgE As S cs oks), (3, .rd_ (.int .u8) Ar rt cr okr)]) k ∨ oks k ∨ okx k ∨ w0.heap.size ≤ k) ∧ Fr 75 a [(0, .pointer (some ⟨bd, 0, none⟩)), (3, .pointer (some ⟨b3, 0, none⟩)), (4, .slice A_ ((ltR S x.1 S.length ++ [x]) ++ gtR S x.1 j).length c_), (6, .int .i64 (j : Int))] ∧ Hp (OwnL [(1, .blk bd (.cells #[.slice As S.length cs, .slice Ar rt.length cr] 61 (0, 0))), (2, .rd_ SgE As S cs oks), (3, .rd_ (.int .u8) Ar rt cr okr)]) w0 w [(1, .blk bd (.cells #[.slice As S.length cs, .slice Ar rt.length cr] 61 (0, 0))), (2, .rd_ SgE As S cs oks), (3, .rd_ (.int .u8) Ar rt cr okr), (905, .rd_ (.int .u8) Ax x.2.1 cx okx), (33, .blk b3 (.cells #[.int .i64 x.1, .slice Ax x.2.1.length cx, .int .i64 x.2.2] 115 (0, 0))), (4, .row SgE 115 (.slice A_ ((ltR S x.1 S.length ++ [x]) ++ gtR S x.1 j).length c_) ((ltR S x.1 S.length ++ [x]) ++ gtR S x.1 j) okv)]) (S.length) ?_ ?_
      · exact ⟨0, A40, c40, _, rfl, by omega, hok40, ((((hF.bare.add hF 6 rfl).add hF 4 rfl).add hF 3 rfl).add hF 0 rfl), hH.sub _ (sub_cons (sub_cons (sub_cons (sub_cons (sub_cons (sub_cons (sub_nil _) 4 rfl) 33 rfl) 905 rfl) 3 rfl) 2 rfl) 1 rfl)⟩
      · rintro _ a w ⟨j, A_, c_, okv, rfl, hq2_0, hq2_1, hF, hH⟩
        refine wp_seq_k fun khK12 hK12 => ?_
        refine wp_seq_k fun khK13 hK13 => ?_
        refine wp_region_lit ?_
        refine l_at hF rfl rfl rfl (x_move (hF.tmp 6 rfl)) ?_; clear hF; intro a hF
        refine l_at hF rfl rfl rfl (x_move (hF.tmp 0 rfl)) ?_; clear hF; intro a hF
        refine l_at hF rfl rfl rfl (x_nil (hF.tmp 42 rfl)) ?_; clear hF; intro a hF
        refine l_at hF rfl rfl rfl (x_faddr Try.underlying61 rfl ty59 (by decide) (hF.tmp 43 rfl) rfl) ?_; clear hF; intro a hF
        refine l_at hF rfl rfl rfl (x_load1 ty59 (hF.tmp 44 rfl) (blk_cell (hH.at 1 rfl) 0 rfl)) ?_; clear hF; intro a hF
        refine l_at hF rfl rfl rfl (x_len_slice Try.underlying59 (hF.tmp 45 rfl)) ?_; clear hF; intro a hF
        refine l_at hF rfl rfl rfl (x_lss (hF.tmp 41 rfl) (hF.tmp 46 rfl)) ?_; clear hF; intro a hF
        refine wpList_nil ?_
        refine hK13 _ _ ?_
        refine wp_cond_split (hF.tmp 47 rfl) (fun hc47 => ?_) (fun hc47 => ?_)
        · try simp only [Bool.or_eq_true, Bool.and_eq_true, Bool.or_eq_false_iff, Bool.and_eq_false_iff, Bool.not_eq_true', Bool.not_eq_false', decide_eq_true_eq, decide_eq_false_iff_not, Bool.not_true, Bool.not_false] at hc47
          obtain ⟨fA2, fc2, hfr2, hf2_0, hf2_1, hf2_2, hfw2⟩ := rd_sg ((hH.rd 2 rfl)) (gq_some (xs := S) (i := (j : Int)) (by omega) (by omega))
          have hH := hH.subrd 2 rfl 2001 hfr2 (fun _ h => h)
          have hH := hH.subcel 2 rfl 2500 hf2_0 (Rd.inok ((hH.rd 2 rfl)) (by omega) _)
          have hH := hH.subcel 2 rfl 2501 hf2_1 (Rd.inok ((hH.rd 2 rfl)) (by omega) _)
          have hH := hH.subcel 2 rfl 2502 hf2_2 (Rd.inok ((hH.rd 2 rfl)) (by omega) _)
          refine wp_skip ?_
          refine hK12 _ _ ?_
          refine wp_seq_k fun khK14 hK14 => ?_
          refine wp_block ?_
          refine wp_seq_k fun khK15 hK15 => ?_
          refine r_start [(1, .blk bd (.cells #[.slice As S.length cs, .slice Ar rt.length cr] 61 (0, 0))), (2, .rd_ SgE As S cs oks), (33, .blk b3 (.cells #[.int .i64 x.1, .slice Ax x.2.1.length cx, .int .i64 x.2.2] 115 (0, 0))), (2500, .cel (adr As ((j : Int).toNat * 3)) (.int .i64 (gq S (j : Int)).1))] (by kernel_rfl) hH fun hH => ?_
          have hS : SL [(1, .blk bd (.cells #[.slice As S.length cs, .slice Ar rt.length cr] 61 (0, 0))), (2, .rd_ SgE As S cs oks), (33, .blk b3 (.cells #[.int .i64 x.1, .slice Ax x.2.1.length cx, .int .i64 x.2.2] 115 (0, 0))), (2500, .cel (adr As ((j : Int).toNat * 3)) (.int .i64 (gq S (j : Int)).1))] _ := SL.of hH (sub_cons (sub_cons (sub_cons (sub_cons (sub_nil _) 2500 rfl) 33 rfl) 2 rfl) 1 rfl)
          refine r_take 0 hF rfl rfl rfl (by kernel_rfl) (by kernel_rfl) (by kernel_rfl) (fun _ _ _ h => h) rfl hS (fun w hS => x_move (hF.tmp 0 rfl)) rfl ?_; clear hF; intro a hF
          refine r_take 1 hF rfl rfl rfl (by kernel_rfl) (by kernel_rfl) (by kernel_rfl) (fun _ _ _ h => h) rfl hS (fun w hS => x_nil (hF.tmp 50 rfl)) rfl ?_; clear hF; intro a hF
          refine r_take 2 hF rfl rfl rfl (by kernel_rfl) (by kernel_rfl) (by kernel_rfl) (fun _ _ _ h => h) rfl hS (fun w hS => x_faddr Try.underlying61 rfl ty59 (by decide) (hF.tmp 51 rfl) rfl) rfl ?_; clear hF; intro a hF
          refine r_take 3 hF rfl rfl rfl (by kernel_rfl) (by kernel_rfl) (by kernel_rfl) (fun _ _ _ h => h) rfl hS (fun w hS => x_load1 ty59 (hF.tmp 52 rfl) (blk_cell (SL.at_ hS 1 rfl) 0 rfl)) rfl ?_; clear hF; intro a hF
          refine r_take 4 hF rfl rfl rfl (by kernel_rfl) (by kernel_rfl) (by kernel_rfl) (fun _ _ _ h => h) rfl hS (fun w hS => x_move (hF.tmp 6 rfl)) rfl ?_; clear hF; intro a hF
          refine r_take 5 hF rfl rfl rfl (by kernel_rfl) (by kernel_rfl) (by kernel_rfl) (fun _ _ _ h => h) rfl hS (fun w hS => x_iaddr_A Try.underlying59 ty115 ((hH.rd 2 rfl)) (hF.tmp 53 rfl) (hF.tmp 54 rfl) (by omega) (by omega) _) rfl ?_; clear hF; intro a hF
          refine r_take 6 hF rfl rfl rfl (by kernel_rfl) (by kernel_rfl) (by kernel_rfl) (fun _ _ _ h => h) rfl hS (fun w hS => x_faddrA ((SL.rd hS 2 rfl)) (by omega) _ Try.underlying115 rfl ty3 (by decide) (hF.tmp 55 rfl) rfl) rfl ?_; clear hF; intro a hF
          refine r_take 7 hF rfl rfl rfl (by kernel_rfl) (by kernel_rfl) (by kernel_rfl) (fun _ _ _ h => h) rfl hS (fun w hS => x_load1 ty3 (hF.tmp 56 rfl) (hS 2500 _ rfl)) rfl ?_; clear hF; intro a hF
          refine r_take 8 hF rfl rfl rfl (by kernel_rfl) (by kernel_rfl) (by kernel_rfl) (fun _ _ _ h => h) rfl hS (fun w hS => x_faddr Try.underlying115 rfl ty3 (by decide) (hF.tmp 3 rfl) rfl) rfl ?_; clear hF; intro a hF
          refine r_take 9 hF rfl rfl rfl (by kernel_rfl) (by kernel_rfl) (by kernel_rfl) (fun _ _ _ h => h) rfl hS (fun w hS => x_load1 ty3 (hF.tmp 58 rfl) (blk_cell (SL.at_ hS 33 rfl) 0 rfl)) rfl ?_; clear hF; intro a hF
          refine r_take 10 hF rfl rfl rfl (by kernel_rfl) (by kernel_rfl) (by kernel_rfl) (fun _ _ _ h => h) rfl hS (fun w hS => x_gtr (hF.tmp 57 rfl) (hF.tmp 59 rfl)) rfl ?_; clear hF; intro a hF
          refine r_end (by kernel_rfl) ?_; clear hS
          refine hK15 _ _ ?_
          refine wp_cond_split (hF.tmp 60 rfl) (fun hc60 => ?_) (fun hc60 => ?_)
          · try simp only [Bool.or_eq_true, Bool.and_eq_true, Bool.or_eq_false_iff, Bool.and_eq_false_iff, Bool.not_eq_true', Bool.not_eq_false', decide_eq_true_eq, decide_eq_false_iff_not, Bool.not_true, Bool.not_false] at hc60
            refine wp_region_lit ?_
            refine l_at hF rfl rfl rfl (x_move (hF.tmp 4 rfl)) ?_; clear hF; intro a hF
            refine l_at hF rfl rfl rfl (x_move (hF.tmp 0 rfl)) ?_; clear hF; intro a hF
            refine l_at hF rfl rfl rfl (x_nil (hF.tmp 62 rfl)) ?_; clear hF; intro a hF
            refine l_at hF rfl rfl rfl (x_faddr Try.underlying61 rfl ty59 (by decide) (hF.tmp 63 rfl) rfl) ?_; clear hF; intro a hF
            refine l_at hF rfl rfl rfl (x_load1 ty59 (hF.tmp 64 rfl) (blk_cell (hH.at 1 rfl) 0 rfl)) ?_; clear hF; intro a hF
            refine l_at hF rfl rfl rfl (x_move (hF.tmp 6 rfl)) ?_; clear hF; intro a hF
            refine l_at hF rfl rfl rfl (x_iaddr_A Try.underlying59 ty115 ((hH.rd 2 rfl)) (hF.tmp 65 rfl) (hF.tmp 66 rfl) (by omega) (by omega) _) ?_; clear hF; intro a hF
            refine l_at hF rfl rfl rfl (x_loadn ty115 (hF.tmp 67 rfl) rfl hfw2) ?_; clear hF; intro a hF
            refine wpList_plain rfl fun K hK => ?_
            refine w_lit1 69 SgE (gq S (j : Int)) #[(.int .i64 (gq S (j : Int)).1), .slice fA2 (gq S (j : Int)).2.1.length fc2, .int .i64 (gq S (j : Int)).2.2] oks hF hH rfl Try.underlying59 ty115 (by simp only [List.map_toArray, List.map_cons, List.map_nil, hF.tmp 68 rfl] <;> rfl) (by decide) (by kernel_rfl) (sg_mk (x := (gq S (j : Int))) (hH.rd 2001 rfl)) (fun k hk => ⟨2, _, rfl, hk⟩) ?_
            clear hF hH; intro a w b69 hF hb69_ hH
            refine hK _ _ ?_; clear hK K
            refine wpList_plain rfl fun K hK => ?_
            refine w_append 4 69 (xs := ((ltR S x.1 S.length ++ [x]) ++ gtR S x.1 j)) (ys := ([(gq S (j : Int))])) hF hH rfl Try.underlying59 ty115 rfl rfl rfl rfl ((hH.rd 69 rfl)) (by intro k_ hk_; exact .inr hk_) (hF.tmp 61 rfl) (hF.tmp 69 rfl) (by have h1 := lt_len S x.1 S.length; have h2 := gt_len S x.1 j; simp only [List.length_append, List.length_cons, List.length_nil]; omega) (by have h1 := lt_len S x.1 S.length; have h2 := gt_len S x.1 j; simp only [List.length_append, List.length_cons, List.length_nil, maxLen]; omega) (fun k => okv k ∨ (fun k => oks k ∨ k = b69) k) (fun w' v' h => h) (by rintro k_ (hk_ | hk_); exact .inl hk_; exact .inr hk_) ?_
            clear hF hH; intro a w v70 hF hH
            refine hK _ _ ?_; clear hK K
            obtain ⟨A70, c70, rfl⟩ := (hH.row 4 rfl).form
            have hok70 : ∀ k, (fun k => okv k ∨ (fun k => oks k ∨ k = b69) k) k → (OwnL [(1, .blk bd (.cells #[.slice As S.length cs, .slice Ar rt.length cr] 61 (0, 0))), (2, .rd_ SgE As S cs oks), (3, .rd_ (.int .u8) Ar rt cr okr)]) k ∨ oks k ∨ okx k ∨ w0.heap.size ≤ k := by
              rintro k (h | h | h)
              · exact hq2_1 k h
              · exact .inr (.inl h)
              · subst h; exact hb69_.elim .inl (fun h => .inr (.inr (.inr h)))
            rw [gt_step (by omega) hc60] at hF hH
            refine l_at hF rfl rfl rfl (x_assign (hF.tmp 70 rfl)) ?_; clear hF; intro a hF
            refine wpList_nil ?_
            refine hK14 _ _ ?_
            refine wp_region_lit ?_
            refine l_at hF rfl rfl rfl (x_move (hF.tmp 6 rfl)) ?_; clear hF; intro a hF
            refine l_at hF rfl rfl rfl (x_add (hF.tmp 48 rfl) rfl (w64 (by omega) (by omega))) ?_; clear hF; intro a hF
            refine l_at hF rfl rfl rfl (x_assign (hF.tmp 49 rfl)) ?_; clear hF; intro a hF
            refine wpList_nil ?_
            exact ⟨_, by omega, ⟨j + 1, A70, c70, _, rfl, by omega, hok70, ((((hF.bare.add hF 6 rfl).add hF 4 rfl).add hF 3 rfl).add hF 0 rfl), hH.sub _ (sub_cons (sub_cons (sub_cons (sub_cons (sub_cons (sub_cons (sub_nil _) 4 rfl) 33 rfl) 905 rfl) 3 rfl) 2 rfl) 1 rfl)⟩⟩
          · try simp only [Bool.or_eq_true, Bool.and_eq_true, Bool.or_eq_false_iff, Bool.and_eq_false_iff, Bool.not_eq_true', Bool.not_eq_false', decide_eq_true_eq, decide_eq_false_iff_not, Bool.not_true, Bool.not_false] at hc60
            rw [gt_no (by omega) hc60] at hF hH
            refine wp_skip ?_
            refine hK14 _ _ ?_
            refine wp_region_lit ?_
            refine l_at hF rfl rfl rfl (x_move (hF.tmp 6 rfl)) ?_; clear hF; intro a hF
            refine l_at hF rfl rfl rfl (x_add (hF.tmp 48 rfl) rfl (w64 (by omega) (by omega))) ?_; clear hF; intro a hF
            refine l_at hF rfl rfl rfl (x_assign (hF.tmp 49 rfl)) ?_; clear hF; intro a hF
            refine wpList_nil ?_
            exact ⟨_, by omega, ⟨j + 1, A_, c_, _, rfl, by omega, hq2_1, ((((hF.bare.add hF 6 rfl).add hF 4 rfl).add hF 3 rfl).add hF 0 rfl), hH.sub _ (sub_cons (sub_cons (sub_cons (sub_cons (sub_cons (sub_cons (sub_nil _) 4 rfl) 33 rfl) 905 rfl) 3 rfl) 2 rfl) 1 rfl)⟩⟩
        · try simp only [Bool.or_eq_true, Bool.and_eq_true, Bool.or_eq_false_iff, Bool.and_eq_false_iff, Bool.not_eq_true', Bool.not_eq_false', decide_eq_true_eq, decide_eq_false_iff_not, Bool.not_true, Bool.not_false] at hc47
          obtain rfl : j = S.length := by omega
          refine wp_exit ?_
          refine hK10 _ _ ?_
          refine wp_region_lit ?_
          have hb4 : ∀ k, (Value.slice A_ ((ltR S x.1 S.length ++ [x]) ++ gtR S x.1 S.length).length c_).ownBlock = some k → _ := hH.mine 4 _ rfl
          have hH := hH.freeze 4 rfl (fun k => okv k ∨ (Value.slice A_ ((ltR S x.1 S.length ++ [x]) ++ gtR S x.1 S.length).length c_).ownBlock = some k) (fun k => Iff.rfl)
          have hH := hH.subrd 4 rfl 2 (hH.rd 4 rfl) (fun _ h => h)
          refine l_at hF rfl rfl rfl (x_move (hF.tmp 0 rfl)) ?_; clear hF; intro a hF
          refine l_at hF rfl rfl rfl (x_move (hF.tmp 4 rfl)) ?_; clear hF; intro a hF
          refine l_at hF rfl rfl rfl (x_nil (hF.tmp 71 rfl)) ?_; clear hF; intro a hF
          refine l_at hF rfl rfl rfl (x_faddr Try.underlying61 rfl ty59 (by decide) (hF.tmp 73 rfl) rfl) ?_; clear hF; intro a hF
          refine wpList_plain rfl fun K hK => ?_
          refine w_store 1 hH ty59 rfl (hF.tmp 74 rfl) (hF.tmp 72 rfl) rfl (one1 rfl rfl) (by first | decide | exact Nat.le_of_ble_eq_true rfl) ?_
          clear hH; intro w hH
          refine hK _ _ ?_; clear hK K
          refine wpList_nil ?_
          try simp only [Exit.then, Exit.inBlock]
          try simp only [if_true]
          exact fin_end hF (res0 rfl) ⟨Asn.all [(1, .blk bd (.cells #[.slice A_ ((ltR S x.1 S.length ++ [x]) ++ gtR S x.1 S.length).length c_, .slice Ar rt.length cr] 61 (0, 0))), (2, .rd_ SgE A_ ((ltR S x.1 S.length ++ [x]) ++ gtR S x.1 S.length) c_ (fun k => okv k ∨ (Value.slice A_ ((ltR S x.1 S.length ++ [x]) ++ gtR S x.1 S.length).length c_).ownBlock = some k)), (3, .rd_ (.int .u8) Ar rt cr okr)], rfl, ⟨_, _, _, _, _, _, rfl⟩, grew_of (hH.sub [(1, .blk bd (.cells #[.slice A_ ((ltR S x.1 S.length ++ [x]) ++ gtR S x.1 S.length).length c_, .slice Ar rt.length cr] 61 (0, 0))), (2, .rd_ SgE A_ ((ltR S x.1 S.length ++ [x]) ++ gtR S x.1 S.length) c_ (fun k => okv k ∨ (Value.slice A_ ((ltR S x.1 S.length ++ [x]) ++ gtR S x.1 S.length).length c_).ownBlock = some k)), (3, .rd_ (.int .u8) Ar rt cr okr)] (sub_cons (sub_cons (sub_cons (sub_nil _) 3 rfl) 2 rfl) 1 rfl)) (rdin_cons (fun k h => h.elim) (rdin_cons (fun k h => h.elim (fun h => (hq2_1 k h).elim .inl (fun h => h.elim (fun h => .inr (.inl ⟨2, _, rfl, h⟩)) (fun h => .inr (.inr h)))) (fun h => (hb4 k h).elim .inl (fun h => .inr (.inr (.inr h))))) (rdin_cons (fun k h => .inr (.inl ⟨3, _, rfl, h⟩)) rdin_nil)))⟩

set_option maxRecDepth 100000 in
set_option maxHeartbeats 1000000 in
theorem rsync_calls (w0 : World) {X : Asn} {bd : Nat} {S : DM} {rt : List Int} (hX : RefA 61 bd S rt X) (hok : X.ok w0) (hSrt : Srt S) (hSl : S.length ≤ 1000) (n : Int) : Calls Try.prog 32 #[.pointer (some ⟨bd, 0, none⟩), .int .i64 n] w0 fun e w' => ∃ X', e = .returned (.int .i64 (atE S n)) ∧ RefA 61 bd (syncS S n) rt X' ∧ Grew (fun _ => False) (fun _ => False) X w0 w' X' := by
  obtain ⟨As, cs, Ar, cr, oks, okr, rfl⟩ := hX
  refine calls_of_wp Try.func32 rfl ?_
  have hF := Fr.enter #[.pointer (some ⟨bd, 0, none⟩), .int .i64 n] 26 (slotsOf [.pointer (some ⟨bd, 0, none⟩), .int .i64 n] 0) (Nat.le_of_ble_eq_true rfl) (fun i v h => by have h2 := (get_slotsOf _ 0 i v h).2; simpa only [List.getElem?_toArray, Nat.sub_zero] using h2)
  rw [Try.ntmps32]
  revert hF; generalize (⟨(#[.pointer (some ⟨bd, 0, none⟩), .int .i64 n] : Array Value) ++ Array.replicate (26 - (#[.pointer (some ⟨bd, 0, none⟩), .int .i64 n] : Array Value).size) undef, []⟩ : Act) = a; intro hF
  have hH := Hp.ofAll hok.holds
  have hleS := (hH.rd 2 rfl).le; have hlert := (hH.rd 3 rfl).le; unfold maxLen at hleS hlert
  refine wp_seq_k fun khK1 hK1 => ?_
  refine wp_region_lit ?_
  refine l_at hF rfl rfl rfl (x_assign rfl) ?_; clear hF; intro a hF
  refine wpList_nil ?_
  refine hK1 _ _ ?_
  refine wp_seq_k fun khK2 hK2 => ?_
  refine wp_region_lit ?_
  refine l_at hF rfl rfl rfl (x_move (hF.tmp 0 rfl)) ?_; clear hF; intro a hF
  refine l_at hF rfl rfl rfl (x_move (hF.tmp 1 rfl)) ?_; clear hF; intro a hF
  refine wpList_plain rfl fun K hK => ?_
  refine w_call hF (x_enter Try.func36 (by kernel_rfl) rfl (by simp only [List.map_toArray, List.map_cons, List.map_nil, hF.tmp 7 rfl, hF.tmp 8 rfl] <;> rfl)) (rfind_calls _ ⟨_, _, _, _, _, _, rfl⟩ (hH.sub [(1, .blk bd (.cells #[.slice As S.length cs, .slice Ar rt.length cr] 61 (0, 0))), (2, .rd_ SgE As S cs oks), (3, .rd_ (.int .u8) Ar rt cr okr)] (sub_cons (sub_cons (sub_cons (sub_nil _) 3 rfl) 2 rfl) 1 rfl)).okAll n) rfl rfl ?_
  rintro _ w ⟨rfl, hm_⟩; refine ⟨_, rfl, ?_⟩; clear hF; intro a hF; have hH := hH.same hm_
  refine hK _ _ ?_; clear hK K
  refine l_at hF rfl rfl rfl (x_assign (hF.tmp 9 rfl)) ?_; clear hF; intro a hF
  refine wpList_nil ?_
  refine hK2 _ _ ?_
  refine wp_seq_k fun khK3 hK3 => ?_
  refine wp_seq_k fun khK4 hK4 => ?_
  refine wp_region_lit ?_
  refine l_at hF rfl rfl rfl (x_move (hF.tmp 5 rfl)) ?_; clear hF; intro a hF
  refine l_at hF rfl rfl rfl (x_lss (hF.tmp 10 rfl) rfl) ?_; clear hF; intro a hF
  refine wpList_nil ?_
  refine hK4 _ _ ?_
  refine wp_cond_split (hF.tmp 11 rfl) (fun hc11 => ?_) (fun hc11 => ?_)
  · try simp only [Bool.or_eq_true, Bool.and_eq_true, Bool.or_eq_false_iff, Bool.and_eq_false_iff, Bool.not_eq_true', Bool.not_eq_false', decide_eq_true_eq, decide_eq_false_iff_not, Bool.not_true, Bool.not_false] at hc11
    have hno := fnd_neg hc11
    refine wp_seq_k fun khK5 hK5 => ?_
    refine wp_region_lit ?_
    refine l_at hF rfl rfl rfl (x_assign rfl) ?_; clear hF; intro a hF
    refine wpList_nil ?_
    refine hK5 _ _ ?_
    refine wp_ret ?_
    try simp only [Exit.then, Exit.inBlock]
    have hE_ := at_of_no hno
    have hM_ := sync_off hno
    refine fin_ret hF (res1 hF rfl rfl) ⟨Asn.all [(1, .blk bd (.cells #[.slice As S.length cs, .slice Ar rt.length cr] 61 (0, 0))), (2, .rd_ SgE As S cs oks), (3, .rd_ (.int .u8) Ar rt cr okr)], by rw [hE_] <;> rfl, by rw [hM_]; exact ⟨_, _, _, _, _, _, rfl⟩, grew_of (hH.sub [(1, .blk bd (.cells #[.slice As S.length cs, .slice Ar rt.length cr] 61 (0, 0))), (2, .rd_ SgE As S cs oks), (3, .rd_ (.int .u8) Ar rt cr okr)] (sub_cons (sub_cons (sub_cons (sub_nil _) 3 rfl) 2 rfl) 1 rfl)) (rdin_cons (fun k h => h.elim) (rdin_cons (fun k h => .inr (.inl ⟨2, _, rfl, h⟩)) (rdin_cons (fun k h => .inr (.inl ⟨3, _, rfl, h⟩)) rdin_nil)))⟩
  · try simp only [Bool.or_eq_true, Bool.and_eq_true, Bool.or_eq_false_iff, Bool.and_eq_false_iff, Bool.not_eq_true', Bool.not_eq_false', decide_eq_true_eq, decide_eq_false_iff_not, Bool.not_true, Bool.not_false] at hc11
    have hat := fnd_at hSrt.keys hc11
    have hat1 := hat.1
    obtain ⟨fA1, fc1, hfr1, hf1_0, hf1_1, hf1_2, hfw1⟩ := rd_sg ((hH.rd 2 rfl)) (gq_some (xs := S) (i := (fnd S n)) (by omega) (by omega))
    have hH := hH.subrd 2 rfl 1001 hfr1 (fun _ h => h)
    have hH := hH.subcel 2 rfl 1500 hf1_0 (Rd.inok ((hH.rd 2 rfl)) (by omega) _)
    have hH := hH.subcel 2 rfl 1501 hf1_1 (Rd.inok ((hH.rd 2 rfl)) (by omega) _)
    have hH := hH.subcel 2 rfl 1502 hf1_2 (Rd.inok ((hH.rd 2 rfl)) (by omega) _)
    refine wp_skip ?_
    refine hK3 _ _ ?_
    refine wp_seq_k fun khK6 hK6 => ?_
    refine wp_region_lit ?_
    refine l_at hF rfl rfl rfl (x_move (hF.tmp 0 rfl)) ?_; clear hF; intro a hF
    refine l_at hF rfl rfl rfl (x_nil (hF.tmp 12 rfl)) ?_; clear hF; intro a hF
    refine l_at hF rfl rfl rfl (x_faddr Try.underlying61 rfl ty59 (by decide) (hF.tmp 13 rfl) rfl) ?_; clear hF; intro a hF
    refine l_at hF rfl rfl rfl (x_load1 ty59 (hF.tmp 14 rfl) (blk_cell (hH.at 1 rfl) 0 rfl)) ?_; clear hF; intro a hF
    refine l_at hF rfl rfl rfl (x_move (hF.tmp 5 rfl)) ?_; clear hF; intro a hF
    refine l_at hF rfl rfl rfl (x_iaddr_A Try.underlying59 ty115 ((hH.rd 2 rfl)) (hF.tmp 15 rfl) (hF.tmp 16 rfl) (by omega) (by omega) _) ?_; clear hF; intro a hF
    refine l_at hF rfl rfl rfl (x_loadn ty115 (hF.tmp 17 rfl) rfl hfw1) ?_; clear hF; intro a hF
    refine wpList_plain rfl fun K hK => ?_
    refine w_alloc 6 hF hH rfl ty115 ?_
    clear hF hH; intro a w b6 hF hH
    refine hK _ _ ?_; clear hK K
    refine wpList_plain rfl fun K hK => ?_
    refine w_storeA 6 hH ty115 rfl (hF.tmp 6 rfl) (hF.tmp 18 rfl) rfl (by simp [Value.cells, Value.oneCell']) rfl ?_
    clear hH; intro w hH
    refine hK _ _ ?_; clear hK K
    refine wpList_nil ?_
    refine hK6 _ _ ?_
    refine wp_seq_k fun khK7 hK7 => ?_
    refine wp_region_lit ?_
    refine l_at hF rfl rfl rfl (x_faddr Try.underlying115 rfl ty42 (by decide) (hF.tmp 6 rfl) rfl) ?_; clear hF; intro a hF
    refine l_at hF rfl rfl rfl (x_load1 ty42 (hF.tmp 19 rfl) (blk_cell (hH.at 6 rfl) 1 rfl)) ?_; clear hF; intro a hF
    refine l_at hF rfl rfl rfl (x_len_slice Try.underlying42 (hF.tmp 20 rfl)) ?_; clear hF; intro a hF
    refine l_at hF rfl rfl rfl (x_faddr Try.underlying115 rfl ty3 (by decide) (hF.tmp 6 rfl) rfl) ?_; clear hF; intro a hF
    refine wpList_plain rfl fun K hK => ?_
    refine w_store 6 hH ty3 rfl (hF.tmp 22 rfl) (hF.tmp 21 rfl) rfl (one1 rfl rfl) (by first | decide | exact Nat.le_of_ble_eq_true rfl) ?_
    clear hH; intro w hH
    refine hK _ _ ?_; clear hK K
    refine wpList_nil ?_
    refine hK7 _ _ ?_
    refine wp_seq_k fun khK8 hK8 => ?_
    refine wp_region_lit ?_
    refine l_at hF rfl rfl rfl (x_move (hF.tmp 0 rfl)) ?_; clear hF; intro a hF
    refine l_at hF rfl rfl rfl (x_loadn ty115 (hF.tmp 6 rfl) rfl (blk_whole (hH.at 6 rfl))) ?_; clear hF; intro a hF
    refine wpList_plain rfl fun K hK => ?_
    refine w_call hF (x_enter Try.func70 (by kernel_rfl) rfl (by simp only [List.map_toArray, List.map_cons, List.map_nil, hF.tmp 23 rfl, hF.tmp 24 rfl] <;> rfl)) (rwith_calls _ ⟨_, _, _, _, _, _, rfl⟩ (hH.sub [(1, .blk bd (.cells #[.slice As S.length cs, .slice Ar rt.length cr] 61 (0, 0))), (2, .rd_ SgE As S cs oks), (3, .rd_ (.int .u8) Ar rt cr okr)] (sub_cons (sub_cons (sub_cons (sub_nil _) 3 rfl) 2 rfl) 1 rfl)).okAll hSl ((gq S (fnd S n)).1, ((gq S (fnd S n)).2.1, ((gq S (fnd S n)).2.1.length : Int))) ((hH.rd 1001 rfl)) (fun k hk => hH.inb 1001 _ rfl k (.inr hk)) (Hp.sepL hH (L := [(1, .blk bd (.cells #[.slice As S.length cs, .slice Ar rt.length cr] 61 (0, 0))), (2, .rd_ SgE As S cs oks), (3, .rd_ (.int .u8) Ar rt cr okr)]) (sub_cons (sub_cons (sub_cons (sub_nil _) 3 rfl) 2 rfl) 1 rfl) 1001 rfl rfl)) rfl rfl ?_
    rintro _ w ⟨X9, rfl, hR9, hG9⟩; refine ⟨_, rfl, ?_⟩; clear hF; intro a hF; obtain ⟨As9, cs9, Ar9, cr9, oks9, okr9, rfl⟩ := hR9; have hms9 := hH.mods.size; have hbn9 : ∀ k, RdL [(1, .blk bd (.cells #[.slice As9 (withR S ((gq S (fnd S n)).1, ((gq S (fnd S n)).2.1, ((gq S (fnd S n)).2.1.length : Int)))).length cs9, .slice Ar9 rt.length cr9] 61 (0, 0))), (2, .rd_ SgE As9 (withR S ((gq S (fnd S n)).1, ((gq S (fnd S n)).2.1, ((gq S (fnd S n)).2.1.length : Int)))) cs9 oks9), (3, .rd_ (.int .u8) Ar9 rt cr9 okr9)] k → OwnL [(1, .blk bd (.cells #[.slice As S.length cs, .slice Ar rt.length cr] 61 (0, 0))), (2, .rd_ SgE As S cs oks), (3, .rd_ (.int .u8) Ar rt cr okr)] k ∨ RdL [(1, .blk bd (.cells #[.slice As S.length cs, .slice Ar rt.length cr] 61 (0, 0))), (2, .rd_ SgE As S cs oks), (3, .rd_ (.int .u8) Ar rt cr okr)] k ∨ (fun _ => False : Nat → Prop) k ∨ w0.heap.size ≤ k := (fun k hk => (hG9.rd k hk).elim .inl (fun h => h.elim (fun h => .inr (.inl h)) (fun h => h.elim (fun h => .inr (.inl ⟨2, _, rfl, h⟩)) (fun h => .inr (.inr (.inr (Nat.le_trans hms9 h))))))); have hH := Hp.turnL hH (L := [(1, .blk bd (.cells #[.slice As S.length cs, .slice Ar rt.length cr] 61 (0, 0))), (2, .rd_ SgE As S cs oks), (3, .rd_ (.int .u8) Ar rt cr okr)]) (sub_cons (sub_cons (sub_cons (sub_nil _) 3 rfl) 2 rfl) 1 rfl) hG9 (fun k hk => ⟨1001, _, rfl, hk⟩) (cover_cons rfl (cover_cons rfl (cover_cons rfl (cover_nil _))))
    refine hK _ _ ?_; clear hK K
    refine wpList_nil ?_
    refine hK8 _ _ ?_
    refine wp_seq_k fun khK9 hK9 => ?_
    refine wp_region_lit ?_
    refine l_at hF rfl rfl rfl (x_assign rfl) ?_; clear hF; intro a hF
    refine wpList_nil ?_
    refine hK9 _ _ ?_
    refine wp_ret ?_
    try simp only [Exit.then, Exit.inBlock]
    have hE_ := at_of hat.2.2
    have hM_ := sync_on hat.2.2 hat.2.1
    refine fin_ret hF (res1 hF rfl rfl) ⟨Asn.all [(1, .blk bd (.cells #[.slice As9 (withR S ((gq S (fnd S n)).1, ((gq S (fnd S n)).2.1, ((gq S (fnd S n)).2.1.length : Int)))).length cs9, .slice Ar9 rt.length cr9] 61 (0, 0))), (2, .rd_ SgE As9 (withR S ((gq S (fnd S n)).1, ((gq S (fnd S n)).2.1, ((gq S (fnd S n)).2.1.length : Int)))) cs9 oks9), (3, .rd_ (.int .u8) Ar9 rt cr9 okr9)], by rw [hE_] <;> rfl, by rw [hM_]; exact ⟨_, _, _, _, _, _, rfl⟩, grew_of (hH.sub [(1, .blk bd (.cells #[.slice As9 (withR S ((gq S (fnd S n)).1, ((gq S (fnd S n)).2.1, ((gq S (fnd S n)).2.1.length : Int)))).length cs9, .slice Ar9 rt.length cr9] 61 (0, 0))), (2, .rd_ SgE As9 (withR S ((gq S (fnd S n)).1, ((gq S (fnd S n)).2.1, ((gq S (fnd S n)).2.1.length : Int)))) cs9 oks9), (3, .rd_ (.int .u8) Ar9 rt cr9 okr9)] (sub_cons (sub_cons (sub_cons (sub_nil _) 3 rfl) 2 rfl) 1 rfl)) (rdin_cons (fun k h => h.elim) (rdin_cons (fun k h => hbn9 k ⟨2, _, rfl, h⟩) (rdin_cons (fun k h => hbn9 k ⟨3, _, rfl, h⟩) rdin_nil)))⟩

set_option maxRecDepth 100000 in
set_option maxHeartbeats 1000000 in
theorem rcut_calls (w0 : World) {X : Asn} {bd : Nat} {S : DM} {rt : List Int} (hX : RefA 61 bd S rt X) (hok : X.ok w0) (hSrt : Srt S) (hSl : S.length ≤ 1000) (n j : Int) : Calls Try.prog 33 #[.pointer (some ⟨bd, 0, none⟩), .int .i64 n, .int .i64 j] w0 fun e w' => ∃ X', e = .returned (.int .i64 (cutE S n j)) ∧ RefA 61 bd (cutS S n j) rt X' ∧ Grew (fun _ => False) (fun _ => False) X w0 w' X' := by
  obtain ⟨As, cs, Ar, cr, oks, okr, rfl⟩ := hX
  refine calls_of_wp Try.func33 rfl ?_
  have hF := Fr.enter #[.pointer (some ⟨bd, 0, none⟩), .int .i64 n, .int .i64 j] 45 (slotsOf [.pointer (some ⟨bd, 0, none⟩), .int .i64 n, .int .i64 j] 0) (Nat.le_of_ble_eq_true rfl) (fun i v h => by have h2 := (get_slotsOf _ 0 i v h).2; simpa only [List.getElem?_toArray, Nat.sub_zero] using h2)
  rw [Try.ntmps33]
  revert hF; generalize (⟨(#[.pointer (some ⟨bd, 0, none⟩), .int .i64 n, .int .i64 j] : Array Value) ++ Array.replicate (45 - (#[.pointer (some ⟨bd, 0, none⟩), .int .i64 n, .int .i64 j] : Array Value).size) undef, []⟩ : Act) = a; intro hF
  have hH := Hp.ofAll hok.holds
  have hleS := (hH.rd 2 rfl).le; have hlert := (hH.rd 3 rfl).le; unfold maxLen at hleS hlert
  refine wp_seq_k fun khK1 hK1 => ?_
  refine wp_region_lit ?_
  refine l_at hF rfl rfl rfl (x_assign rfl) ?_; clear hF; intro a hF
  refine wpList_nil ?_
  refine hK1 _ _ ?_
  refine wp_seq_k fun khK2 hK2 => ?_
  refine wp_region_lit ?_
  refine l_at hF rfl rfl rfl (x_move (hF.tmp 0 rfl)) ?_; clear hF; intro a hF
  refine l_at hF rfl rfl rfl (x_move (hF.tmp 1 rfl)) ?_; clear hF; intro a hF
  refine wpList_plain rfl fun K hK => ?_
  refine w_call hF (x_enter Try.func36 (by kernel_rfl) rfl (by simp only [List.map_toArray, List.map_cons, List.map_nil, hF.tmp 8 rfl, hF.tmp 9 rfl] <;> rfl)) (rfind_calls _ ⟨_, _, _, _, _, _, rfl⟩ (hH.sub [(1, .blk bd (.cells #[.slice As S.length cs, .slice Ar rt.length cr] 61 (0, 0))), (2, .rd_ SgE As S cs oks), (3, .rd_ (.int .u8) Ar rt cr okr)] (sub_cons (sub_cons (sub_cons (sub_nil _) 3 rfl) 2 rfl) 1 rfl)).okAll n) rfl rfl ?_
  rintro _ w ⟨rfl, hm_⟩; refine ⟨_, rfl, ?_⟩; clear hF; intro a hF; have hH := hH.same hm_
  refine hK _ _ ?_; clear hK K
  refine l_at hF rfl rfl rfl (x_assign (hF.tmp 10 rfl)) ?_; clear hF; intro a hF
  refine wpList_nil ?_
  refine hK2 _ _ ?_
  refine wp_seq_k fun khK3 hK3 => ?_
  refine wp_seq_k fun khK4 hK4 => ?_
  refine wp_region_lit ?_
  refine l_at hF rfl rfl rfl (x_move (hF.tmp 7 rfl)) ?_; clear hF; intro a hF
  refine l_at hF rfl rfl rfl (x_lss (hF.tmp 11 rfl) rfl) ?_; clear hF; intro a hF
  refine l_at hF rfl rfl rfl (x_move (hF.tmp 12 rfl)) ?_; clear hF; intro a hF
  refine split_bool hF 13 rfl (fun hb13 => ?_) (fun hb13 => ?_)
  · have hc13 := hb13; try simp only [Bool.or_eq_true, Bool.and_eq_true, Bool.or_eq_false_iff, Bool.and_eq_false_iff, Bool.not_eq_true', Bool.not_eq_false', decide_eq_true_eq, decide_eq_false_iff_not, Bool.not_true, Bool.not_false] at hc13
    have hno := cutS_none (j := j) hc13
    refine l_offg hF ((wanted_of hF rfl rfl rfl rfl).trans (by rw [hb13]; rfl)) rfl rfl ?_; clear hF; intro a hF
    refine l_offg hF ((wanted_of hF rfl rfl rfl rfl).trans (by rw [hb13]; rfl)) rfl rfl ?_; clear hF; intro a hF
    refine l_at hF rfl rfl rfl (x_pickT (hF.tmp 13 rfl) hb13 rfl) ?_; clear hF; intro a hF
    refine l_at hF rfl rfl rfl (x_move (hF.tmp 16 rfl)) ?_; clear hF; intro a hF
    refine l_offg hF ((wanted_of hF rfl rfl rfl rfl).trans rfl) rfl rfl ?_; clear hF; intro a hF
    refine l_offg hF ((wanted_of hF rfl rfl rfl rfl).trans rfl) rfl rfl ?_; clear hF; intro a hF
    refine l_offg hF ((wanted_of hF rfl rfl rfl rfl).trans rfl) rfl rfl ?_; clear hF; intro a hF
    refine l_offg hF ((wanted_of hF rfl rfl rfl rfl).trans rfl) rfl rfl ?_; clear hF; intro a hF
    refine l_offg hF ((wanted_of hF rfl rfl rfl rfl).trans rfl) rfl rfl ?_; clear hF; intro a hF
    refine l_offg hF ((wanted_of hF rfl rfl rfl rfl).trans rfl) rfl rfl ?_; clear hF; intro a hF
    refine l_offg hF ((wanted_of hF rfl rfl rfl rfl).trans rfl) rfl rfl ?_; clear hF; intro a hF
    refine l_offg hF ((wanted_of hF rfl rfl rfl rfl).trans rfl) rfl rfl ?_; clear hF; intro a hF
    refine l_offg hF ((wanted_of hF rfl rfl rfl rfl).trans rfl) rfl rfl ?_; clear hF; intro a hF
    refine l_offg hF ((wanted_of hF rfl rfl rfl rfl).trans rfl) rfl rfl ?_; clear hF; intro a hF
    refine l_offg hF ((wanted_of hF rfl rfl rfl rfl).trans rfl) rfl rfl ?_; clear hF; intro a hF
    refine l_at hF rfl rfl rfl (x_pickT (hF.tmp 17 rfl) rfl rfl) ?_; clear hF; intro a hF
    refine wpList_nil ?_
    refine hK4 _ _ ?_
    refine wp_cond_true (hF.tmp 29 rfl) ?_
    refine wp_seq_k fun khK5 hK5 => ?_
    refine wp_region_lit ?_
    refine l_at hF rfl rfl rfl (x_assign rfl) ?_; clear hF; intro a hF
    refine wpList_nil ?_
    refine hK5 _ _ ?_
    refine wp_ret ?_
    try simp only [Exit.then, Exit.inBlock]
    have hE_ := hno.1
    have hM_ := hno.2
    refine fin_ret hF (res1 hF rfl rfl) ⟨Asn.all [(1, .blk bd (.cells #[.slice As S.length cs, .slice Ar rt.length cr] 61 (0, 0))), (2, .rd_ SgE As S cs oks), (3, .rd_ (.int .u8) Ar rt cr okr)], by rw [hE_] <;> rfl, by rw [hM_]; exact ⟨_, _, _, _, _, _, rfl⟩, grew_of (hH.sub [(1, .blk bd (.cells #[.slice As S.length cs, .slice Ar rt.length cr] 61 (0, 0))), (2, .rd_ SgE As S cs oks), (3, .rd_ (.int .u8) Ar rt cr okr)] (sub_cons (sub_cons (sub_cons (sub_nil _) 3 rfl) 2 rfl) 1 rfl)) (rdin_cons (fun k h => h.elim) (rdin_cons (fun k h => .inr (.inl ⟨2, _, rfl, h⟩)) (rdin_cons (fun k h => .inr (.inl ⟨3, _, rfl, h⟩)) rdin_nil)))⟩
  · have hc13 := hb13; try simp only [Bool.or_eq_true, Bool.and_eq_true, Bool.or_eq_false_iff, Bool.and_eq_false_iff, Bool.not_eq_true', Bool.not_eq_false', decide_eq_true_eq, decide_eq_false_iff_not, Bool.not_true, Bool.not_false] at hc13
    have hat := fnd_at hSrt.keys hc13
    have hat1 := hat.1
    obtain ⟨fA1, fc1, hfr1, hf1_0, hf1_1, hf1_2, hfw1⟩ := rd_sg ((hH.rd 2 rfl)) (gq_some (xs := S) (i := (fnd S n)) (by omega) (by omega))
    have hH := hH.subrd 2 rfl 1001 hfr1 (fun _ h => h)
    have hH := hH.subcel 2 rfl 1500 hf1_0 (Rd.inok ((hH.rd 2 rfl)) (by omega) _)
    have hH := hH.subcel 2 rfl 1501 hf1_1 (Rd.inok ((hH.rd 2 rfl)) (by omega) _)
    have hH := hH.subcel 2 rfl 1502 hf1_2 (Rd.inok ((hH.rd 2 rfl)) (by omega) _)
    refine l_atg hF ((wanted_of hF rfl rfl rfl rfl).trans (by rw [hb13]; rfl)) rfl rfl (x_move (hF.tmp 2 rfl)) ?_; clear hF; intro a hF
    refine l_atg hF ((wanted_of hF rfl rfl rfl rfl).trans (by rw [hb13]; rfl)) rfl rfl (x_lss (hF.tmp 14 rfl) rfl) ?_; clear hF; intro a hF
    refine l_at hF rfl rfl rfl (x_pickF (hF.tmp 13 rfl) hb13 (hF.tmp 15 rfl)) ?_; clear hF; intro a hF
    refine l_at hF rfl rfl rfl (x_move (hF.tmp 16 rfl)) ?_; clear hF; intro a hF
    refine split_bool hF 17 rfl (fun hb17 => ?_) (fun hb17 => ?_)
    · have hc17 := hb17; try simp only [Bool.or_eq_true, Bool.and_eq_true, Bool.or_eq_false_iff, Bool.and_eq_false_iff, Bool.not_eq_true', Bool.not_eq_false', decide_eq_true_eq, decide_eq_false_iff_not, Bool.not_true, Bool.not_false] at hc17
      have hno := cutS_neg (S := S) (n := n) hc17
      refine l_offg hF ((wanted_of hF rfl rfl rfl rfl).trans (by rw [hb17]; rfl)) rfl rfl ?_; clear hF; intro a hF
      refine l_offg hF ((wanted_of hF rfl rfl rfl rfl).trans (by rw [hb17]; rfl)) rfl rfl ?_; clear hF; intro a hF
      refine l_offg hF ((wanted_of hF rfl rfl rfl rfl).trans (by rw [hb17]; rfl)) rfl rfl ?_; clear hF; intro a hF
      refine l_offg hF ((wanted_of hF rfl rfl rfl rfl).trans (by rw [hb17]; rfl)) rfl rfl ?_; clear hF; intro a hF
      refine l_offg hF ((wanted_of hF rfl rfl rfl rfl).trans (by rw [hb17]; rfl)) rfl rfl ?_; clear hF; intro a hF
      refine l_offg hF ((wanted_of hF rfl rfl rfl rfl).trans (by rw [hb17]; rfl)) rfl rfl ?_; clear hF; intro a hF
      refine l_offg hF ((wanted_of hF rfl rfl rfl rfl).trans (by rw [hb17]; rfl)) rfl rfl ?_; clear hF; intro a hF
      refine l_offg hF ((wanted_of hF rfl rfl rfl rfl).trans (by rw [hb17]; rfl)) rfl rfl ?_; clear hF; intro a hF
      refine l_offg hF ((wanted_of hF rfl rfl rfl rfl).trans (by rw [hb17]; rfl)) rfl rfl ?_; clear hF; intro a hF
      refine l_offg hF ((wanted_of hF rfl rfl rfl rfl).trans (by rw [hb17]; rfl)) rfl rfl ?_; clear hF; intro a hF
      refine l_offg hF ((wanted_of hF rfl rfl rfl rfl).trans (by rw [hb17]; rfl)) rfl rfl ?_; clear hF; intro a hF
      refine l_at hF rfl rfl rfl (x_pickT (hF.tmp 17 rfl) hb17 rfl) ?_; clear hF; intro a hF
      refine wpList_nil ?_
      refine hK4 _ _ ?_
      refine wp_cond_true (hF.tmp 29 rfl) ?_
      refine wp_seq_k fun khK6 hK6 => ?_
      refine wp_region_lit ?_
      refine l_at hF rfl rfl rfl (x_assign rfl) ?_; clear hF; intro a hF
      refine wpList_nil ?_
      refine hK6 _ _ ?_
      refine wp_ret ?_
      try simp only [Exit.then, Exit.inBlock]
      have hE_ := hno.1
      have hM_ := hno.2
      refine fin_ret hF (res1 hF rfl rfl) ⟨Asn.all [(1, .blk bd (.cells #[.slice As S.length cs, .slice Ar rt.length cr] 61 (0, 0))), (2, .rd_ SgE As S cs oks), (3, .rd_ (.int .u8) Ar rt cr okr)], by rw [hE_] <;> rfl, by rw [hM_]; exact ⟨_, _, _, _, _, _, rfl⟩, grew_of (hH.sub [(1, .blk bd (.cells #[.slice As S.length cs, .slice Ar rt.length cr] 61 (0, 0))), (2, .rd_ SgE As S cs oks), (3, .rd_ (.int .u8) Ar rt cr okr)] (sub_cons (sub_cons (sub_cons (sub_nil _) 3 rfl) 2 rfl) 1 rfl)) (rdin_cons (fun k h => h.elim) (rdin_cons (fun k h => .inr (.inl ⟨2, _, rfl, h⟩)) (rdin_cons (fun k h => .inr (.inl ⟨3, _, rfl, h⟩)) rdin_nil)))⟩
    · have hc17 := hb17; try simp only [Bool.or_eq_true, Bool.and_eq_true, Bool.or_eq_false_iff, Bool.and_eq_false_iff, Bool.not_eq_true', Bool.not_eq_false', decide_eq_true_eq, decide_eq_false_iff_not, Bool.not_true, Bool.not_false] at hc17
      refine l_atg hF ((wanted_of hF rfl rfl rfl rfl).trans (by rw [hb17]; rfl)) rfl rfl (x_move (hF.tmp 2 rfl)) ?_; clear hF; intro a hF
      refine l_atg hF ((wanted_of hF rfl rfl rfl rfl).trans (by rw [hb17]; rfl)) rfl rfl (x_move (hF.tmp 0 rfl)) ?_; clear hF; intro a hF
      refine l_atg hF ((wanted_of hF rfl rfl rfl rfl).trans (by rw [hb17]; rfl)) rfl rfl (x_nil (hF.tmp 19 rfl)) ?_; clear hF; intro a hF
      refine l_atg hF ((wanted_of hF rfl rfl rfl rfl).trans (by rw [hb17]; rfl)) rfl rfl (x_faddr Try.underlying61 rfl ty59 (by decide) (hF.tmp 20 rfl) rfl) ?_; clear hF; intro a hF
      refine l_atg hF ((wanted_of hF rfl rfl rfl rfl).trans (by rw [hb17]; rfl)) rfl rfl (x_load1 ty59 (hF.tmp 21 rfl) (blk_cell (hH.at 1 rfl) 0 rfl)) ?_; clear hF; intro a hF
      refine l_atg hF ((wanted_of hF rfl rfl rfl rfl).trans (by rw [hb17]; rfl)) rfl rfl (x_move (hF.tmp 7 rfl)) ?_; clear hF; intro a hF
      refine l_atg hF ((wanted_of hF rfl rfl rfl rfl).trans (by rw [hb17]; rfl)) rfl rfl (x_iaddr_A Try.underlying59 ty115 ((hH.rd 2 rfl)) (hF.tmp 22 rfl) (hF.tmp 23 rfl) (by omega) (by omega) _) ?_; clear hF; intro a hF
      refine l_atg hF ((wanted_of hF rfl rfl rfl rfl).trans (by rw [hb17]; rfl)) rfl rfl (x_faddrA ((hH.rd 2 rfl)) (by omega) _ Try.underlying115 rfl ty42 (by decide) (hF.tmp 24 rfl) rfl) ?_; clear hF; intro a hF
      refine l_atg hF ((wanted_of hF rfl rfl rfl rfl).trans (by rw [hb17]; rfl)) rfl rfl (x_load1 ty42 (hF.tmp 25 rfl) (hH.holds 1501 _ rfl)) ?_; clear hF; intro a hF
      refine l_atg hF ((wanted_of hF rfl rfl rfl rfl).trans (by rw [hb17]; rfl)) rfl rfl (x_len_slice Try.underlying42 (hF.tmp 26 rfl)) ?_; clear hF; intro a hF
      refine l_atg hF ((wanted_of hF rfl rfl rfl rfl).trans (by rw [hb17]; rfl)) rfl rfl (x_gtr (hF.tmp 18 rfl) (hF.tmp 27 rfl)) ?_; clear hF; intro a hF
      refine l_at hF rfl rfl rfl (x_pickF (hF.tmp 17 rfl) hb17 (hF.tmp 28 rfl)) ?_; clear hF; intro a hF
      refine wpList_nil ?_
      refine hK4 _ _ ?_
      refine wp_cond_split (hF.tmp 29 rfl) (fun hc29 => ?_) (fun hc29 => ?_)
      · try simp only [Bool.or_eq_true, Bool.and_eq_true, Bool.or_eq_false_iff, Bool.and_eq_false_iff, Bool.not_eq_true', Bool.not_eq_false', decide_eq_true_eq, decide_eq_false_iff_not, Bool.not_true, Bool.not_false] at hc29
        have hno := cutS_far hat.2.1 hc29
        refine wp_seq_k fun khK7 hK7 => ?_
        refine wp_region_lit ?_
        refine l_at hF rfl rfl rfl (x_assign rfl) ?_; clear hF; intro a hF
        refine wpList_nil ?_
        refine hK7 _ _ ?_
        refine wp_ret ?_
        try simp only [Exit.then, Exit.inBlock]
        have hE_ := hno.1
        have hM_ := hno.2
        refine fin_ret hF (res1 hF rfl rfl) ⟨Asn.all [(1, .blk bd (.cells #[.slice As S.length cs, .slice Ar rt.length cr] 61 (0, 0))), (2, .rd_ SgE As S cs oks), (3, .rd_ (.int .u8) Ar rt cr okr)], by rw [hE_] <;> rfl, by rw [hM_]; exact ⟨_, _, _, _, _, _, rfl⟩, grew_of (hH.sub [(1, .blk bd (.cells #[.slice As S.length cs, .slice Ar rt.length cr] 61 (0, 0))), (2, .rd_ SgE As S cs oks), (3, .rd_ (.int .u8) Ar rt cr okr)] (sub_cons (sub_cons (sub_cons (sub_nil _) 3 rfl) 2 rfl) 1 rfl)) (rdin_cons (fun k h => h.elim) (rdin_cons (fun k h => .inr (.inl ⟨2, _, rfl, h⟩)) (rdin_cons (fun k h => .inr (.inl ⟨3, _, rfl, h⟩)) rdin_nil)))⟩
      · try simp only [Bool.or_eq_true, Bool.and_eq_true, Bool.or_eq_false_iff, Bool.and_eq_false_iff, Bool.not_eq_true', Bool.not_eq_false', decide_eq_true_eq, decide_eq_false_iff_not, Bool.not_true, Bool.not_false] at hc29
        have hon := cutS_on hat.2.2 hat.2.1 hc17 hc29
        refine wp_skip ?_
        refine hK3 _ _ ?_
        refine wp_seq_k fun khK8 hK8 => ?_
        refine wp_region_lit ?_
        refine l_at hF rfl rfl rfl (x_move (hF.tmp 0 rfl)) ?_; clear hF; intro a hF
        refine l_at hF rfl rfl rfl (x_move (hF.tmp 1 rfl)) ?_; clear hF; intro a hF
        refine l_at hF rfl rfl rfl (x_move (hF.tmp 0 rfl)) ?_; clear hF; intro a hF
        refine l_at hF rfl rfl rfl (x_nil (hF.tmp 32 rfl)) ?_; clear hF; intro a hF
        refine l_at hF rfl rfl rfl (x_faddr Try.underlying61 rfl ty59 (by decide) (hF.tmp 33 rfl) rfl) ?_; clear hF; intro a hF
        refine l_at hF rfl rfl rfl (x_load1 ty59 (hF.tmp 34 rfl) (blk_cell (hH.at 1 rfl) 0 rfl)) ?_; clear hF; intro a hF
        refine l_at hF rfl rfl rfl (x_move (hF.tmp 7 rfl)) ?_; clear hF; intro a hF
        refine l_at hF rfl rfl rfl (x_iaddr_A Try.underlying59 ty115 ((hH.rd 2 rfl)) (hF.tmp 35 rfl) (hF.tmp 36 rfl) (by omega) (by omega) _) ?_; clear hF; intro a hF
        refine l_at hF rfl rfl rfl (x_faddrA ((hH.rd 2 rfl)) (by omega) _ Try.underlying115 rfl ty42 (by decide) (hF.tmp 37 rfl) rfl) ?_; clear hF; intro a hF
        refine l_at hF rfl rfl rfl (x_load1 ty42 (hF.tmp 38 rfl) (hH.holds 1501 _ rfl)) ?_; clear hF; intro a hF
        refine l_at hF rfl rfl rfl (x_move (hF.tmp 2 rfl)) ?_; clear hF; intro a hF
        refine l_at hF rfl rfl rfl (x_slice_h Try.underlying42 ty5 (hF.tmp 39 rfl) (hF.tmp 40 rfl) (by omega) (by omega) ((hH.rd 1001 rfl)).1) ?_; clear hF; intro a hF
        refine l_at hF rfl rfl rfl (x_move (hF.tmp 2 rfl)) ?_; clear hF; intro a hF
        refine l_at hF rfl rfl rfl (x_buildS (cells := #[.int .i64 n, .slice (fA1) (((gq S (fnd S n)).2.1).take j.toNat).length fc1, .int .i64 j]) (places := #[(0, 1), (1, 1), (2, 1)]) Try.underlying115 ty115 (by kernel_rfl) (by simp only [List.map_toArray, List.map_cons, List.map_nil, hF.tmp 31 rfl, hF.tmp 41 rfl, hF.tmp 42 rfl] <;> rfl) rfl) ?_; clear hF; intro a hF
        refine wpList_plain rfl fun K hK => ?_
        refine w_call hF (x_enter Try.func70 (by kernel_rfl) rfl (by simp only [List.map_toArray, List.map_cons, List.map_nil, hF.tmp 30 rfl, hF.tmp 43 rfl] <;> rfl)) (rwith_calls _ ⟨_, _, _, _, _, _, rfl⟩ (hH.sub [(1, .blk bd (.cells #[.slice As S.length cs, .slice Ar rt.length cr] 61 (0, 0))), (2, .rd_ SgE As S cs oks), (3, .rd_ (.int .u8) Ar rt cr okr)] (sub_cons (sub_cons (sub_cons (sub_nil _) 3 rfl) 2 rfl) 1 rfl)).okAll hSl (n, ((gq S (fnd S n)).2.1.take j.toNat, j)) ((Rd.take ((hH.rd 1001 rfl)) j.toNat)) (fun k hk => hH.inb 1001 _ rfl k (.inr hk)) (Hp.sepL hH (L := [(1, .blk bd (.cells #[.slice As S.length cs, .slice Ar rt.length cr] 61 (0, 0))), (2, .rd_ SgE As S cs oks), (3, .rd_ (.int .u8) Ar rt cr okr)]) (sub_cons (sub_cons (sub_cons (sub_nil _) 3 rfl) 2 rfl) 1 rfl) 1001 rfl rfl)) rfl rfl ?_
        rintro _ w ⟨X9, rfl, hR9, hG9⟩; refine ⟨_, rfl, ?_⟩; clear hF; intro a hF; obtain ⟨As9, cs9, Ar9, cr9, oks9, okr9, rfl⟩ := hR9; have hms9 := hH.mods.size; have hbn9 : ∀ k, RdL [(1, .blk bd (.cells #[.slice As9 (withR S (n, ((gq S (fnd S n)).2.1.take j.toNat, j))).length cs9, .slice Ar9 rt.length cr9] 61 (0, 0))), (2, .rd_ SgE As9 (withR S (n, ((gq S (fnd S n)).2.1.take j.toNat, j))) cs9 oks9), (3, .rd_ (.int .u8) Ar9 rt cr9 okr9)] k → OwnL [(1, .blk bd (.cells #[.slice As S.length cs, .slice Ar rt.length cr] 61 (0, 0))), (2, .rd_ SgE As S cs oks), (3, .rd_ (.int .u8) Ar rt cr okr)] k ∨ RdL [(1, .blk bd (.cells #[.slice As S.length cs, .slice Ar rt.length cr] 61 (0, 0))), (2, .rd_ SgE As S cs oks), (3, .rd_ (.int .u8) Ar rt cr okr)] k ∨ (fun _ => False : Nat → Prop) k ∨ w0.heap.size ≤ k := (fun k hk => (hG9.rd k hk).elim .inl (fun h => h.elim (fun h => .inr (.inl h)) (fun h => h.elim (fun h => .inr (.inl ⟨2, _, rfl, h⟩)) (fun h => .inr (.inr (.inr (Nat.le_trans hms9 h))))))); have hH := Hp.turnL hH (L := [(1, .blk bd (.cells #[.slice As S.length cs, .slice Ar rt.length cr] 61 (0, 0))), (2, .rd_ SgE As S cs oks), (3, .rd_ (.int .u8) Ar rt cr okr)]) (sub_cons (sub_cons (sub_cons (sub_nil _) 3 rfl) 2 rfl) 1 rfl) hG9 (fun k hk => ⟨1001, _, rfl, hk⟩) (cover_cons rfl (cover_cons rfl (cover_cons rfl (cover_nil _))))
        refine hK _ _ ?_; clear hK K
        refine wpList_nil ?_
        refine hK8 _ _ ?_
        refine wp_seq_k fun khK9 hK9 => ?_
        refine wp_region_lit ?_
        refine l_at hF rfl rfl rfl (x_assign rfl) ?_; clear hF; intro a hF
        refine wpList_nil ?_
        refine hK9 _ _ ?_
        refine wp_ret ?_
        try simp only [Exit.then, Exit.inBlock]
        have hE_ := hon.1
        have hM_ := hon.2
        refine fin_ret hF (res1 hF rfl rfl) ⟨Asn.all [(1, .blk bd (.cells #[.slice As9 (withR S (n, ((gq S (fnd S n)).2.1.take j.toNat, j))).length cs9, .slice Ar9 rt.length cr9] 61 (0, 0))), (2, .rd_ SgE As9 (withR S (n, ((gq S (fnd S n)).2.1.take j.toNat, j))) cs9 oks9), (3, .rd_ (.int .u8) Ar9 rt cr9 okr9)], by rw [hE_] <;> rfl, by rw [hM_]; exact ⟨_, _, _, _, _, _, rfl⟩, grew_of (hH.sub [(1, .blk bd (.cells #[.slice As9 (withR S (n, ((gq S (fnd S n)).2.1.take j.toNat, j))).length cs9, .slice Ar9 rt.length cr9] 61 (0, 0))), (2, .rd_ SgE As9 (withR S (n, ((gq S (fnd S n)).2.1.take j.toNat, j))) cs9 oks9), (3, .rd_ (.int .u8) Ar9 rt cr9 okr9)] (sub_cons (sub_cons (sub_cons (sub_nil _) 3 rfl) 2 rfl) 1 rfl)) (rdin_cons (fun k h => h.elim) (rdin_cons (fun k h => hbn9 k ⟨2, _, rfl, h⟩) (rdin_cons (fun k h => hbn9 k ⟨3, _, rfl, h⟩) rdin_nil)))⟩

set_option maxRecDepth 100000 in
set_option maxHeartbeats 1000000 in
theorem rapp_calls (w0 : World) {X : Asn} {bd : Nat} {S : DM} {rt : List Int} (hX : RefA 61 bd S rt X) (hok : X.ok w0) (hSrt : Srt S) (hSl : S.length ≤ 1000) (hi : DInv S) (n : Int) {okb : Nat → Prop} {Ab : Option Addr} {bs : List Int} {cb : Nat} (hrb : Rd (.int .u8) w0 okb Ab bs cb) (hbin : ∀ k, okb k → k < w0.heap.size) (hbs : ∀ k, okb k → ¬ X.own k) : Calls Try.prog 31 #[.pointer (some ⟨bd, 0, none⟩), .int .i64 n, .slice Ab bs.length cb] w0 fun e w' => ∃ X', e = .returned (.int .i64 (appE S n bs)) ∧ RefA 61 bd (appS S n bs) rt X' ∧ Grew (fun _ => False) (fun _ => False) X w0 w' X' := by
  obtain ⟨As, cs, Ar, cr, oks, okr, rfl⟩ := hX
  refine calls_of_wp Try.func31 rfl ?_
  have hF := Fr.enter #[.pointer (some ⟨bd, 0, none⟩), .int .i64 n, .slice Ab bs.length cb] 61 (slotsOf [.pointer (some ⟨bd, 0, none⟩), .int .i64 n, .slice Ab bs.length cb] 0) (Nat.le_of_ble_eq_true rfl) (fun i v h => by have h2 := (get_slotsOf _ 0 i v h).2; simpa only [List.getElem?_toArray, Nat.sub_zero] using h2)
  rw [Try.ntmps31]
  revert hF; generalize (⟨(#[.pointer (some ⟨bd, 0, none⟩), .int .i64 n, .slice Ab bs.length cb] : Array Value) ++ Array.replicate (61 - (#[.pointer (some ⟨bd, 0, none⟩), .int .i64 n, .slice Ab bs.length cb] : Array Value).size) undef, []⟩ : Act) = a; intro hF
  have hH := Hp.ofAll hok.holds
  have hleS := (hH.rd 2 rfl).le; have hlert := (hH.rd 3 rfl).le; unfold maxLen at hleS hlert
  have hH := hH.readable 901 hrb hbin (fun i A_ hA k hk hk2 => hbs k hk2 ⟨i, A_, hA, hk⟩)
  have hlb := hrb.le; unfold maxLen at hlb
  refine wp_seq_k fun khK1 hK1 => ?_
  refine wp_region_lit ?_
  refine l_at hF rfl rfl rfl (x_assign rfl) ?_; clear hF; intro a hF
  refine wpList_nil ?_
  refine hK1 _ _ ?_
  refine wp_seq_k fun khK2 hK2 => ?_
  refine wp_region_lit ?_
  refine l_at hF rfl rfl rfl (x_move (hF.tmp 0 rfl)) ?_; clear hF; intro a hF
  refine l_at hF rfl rfl rfl (x_move (hF.tmp 1 rfl)) ?_; clear hF; intro a hF
  refine wpList_plain rfl fun K hK => ?_
  refine w_call hF (x_enter Try.func36 (by kernel_rfl) rfl (by simp only [List.map_toArray, List.map_cons, List.map_nil, hF.tmp 9 rfl, hF.tmp 10 rfl] <;> rfl)) (rfind_calls _ ⟨_, _, _, _, _, _, rfl⟩ (hH.sub [(1, .blk bd (.cells #[.slice As S.length cs, .slice Ar rt.length cr] 61 (0, 0))), (2, .rd_ SgE As S cs oks), (3, .rd_ (.int .u8) Ar rt cr okr)] (sub_cons (sub_cons (sub_cons (sub_nil _) 3 rfl) 2 rfl) 1 rfl)).okAll n) rfl rfl ?_
  rintro _ w ⟨rfl, hm_⟩; refine ⟨_, rfl, ?_⟩; clear hF; intro a hF; have hH := hH.same hm_
  refine hK _ _ ?_; clear hK K
  refine l_at hF rfl rfl rfl (x_assign (hF.tmp 11 rfl)) ?_; clear hF; intro a hF
  refine wpList_nil ?_
  refine hK2 _ _ ?_
  refine wp_seq_k fun khK3 hK3 => ?_
  refine wp_region_lit ?_
  have hH := Hp.rdnil hH 907 (.int .u8)
  refine l_at hF rfl rfl rfl (x_move (hF.tmp 1 rfl)) ?_; clear hF; intro a hF
  refine l_at hF rfl rfl rfl (x_buildS (cells := #[.int .i64 n, .slice none 0 0, .int .i64 0]) (places := #[(0, 1), (1, 1), (2, 1)]) Try.underlying115 ty115 (by kernel_rfl) (by simp only [List.map_toArray, List.map_cons, List.map_nil, hF.tmp 12 rfl] <;> rfl) rfl) ?_; clear hF; intro a hF
  refine wpList_plain rfl fun K hK => ?_
  refine w_alloc 8 hF hH rfl ty115 ?_
  clear hF hH; intro a w b8 hF hH
  refine hK _ _ ?_; clear hK K
  refine wpList_plain rfl fun K hK => ?_
  refine w_storeA 8 hH ty115 rfl (hF.tmp 8 rfl) (hF.tmp 13 rfl) rfl (by simp [Value.cells, Value.oneCell']) rfl ?_
  clear hH; intro w hH
  refine hK _ _ ?_; clear hK K
  refine wpList_nil ?_
  refine hK3 _ _ ?_
  refine wp_seq_k fun khK4 hK4 => ?_
  refine wp_seq_k fun khK5 hK5 => ?_
  refine wp_region_lit ?_
  refine l_at hF rfl rfl rfl (x_move (hF.tmp 7 rfl)) ?_; clear hF; intro a hF
  refine l_at hF rfl rfl rfl (x_geq (hF.tmp 14 rfl) rfl) ?_; clear hF; intro a hF
  refine wpList_nil ?_
  refine hK5 _ _ ?_
  refine wp_cond_split (hF.tmp 15 rfl) (fun hc15 => ?_) (fun hc15 => ?_)
  · try simp only [Bool.or_eq_true, Bool.and_eq_true, Bool.or_eq_false_iff, Bool.and_eq_false_iff, Bool.not_eq_true', Bool.not_eq_false', decide_eq_true_eq, decide_eq_false_iff_not, Bool.not_true, Bool.not_false] at hc15
    have hat := fnd_at hSrt.keys (Int.not_lt.2 hc15)
    have hat1 := hat.1
    have hsg : (gq S (fnd S n)).2.1.length ≤ 1024 := by rw [hat.2.1]; exact (hi.get n).2.2
    obtain ⟨fA1, fc1, hfr1, hf1_0, hf1_1, hf1_2, hfw1⟩ := rd_sg ((hH.rd 2 rfl)) (gq_some (xs := S) (i := (fnd S n)) (by omega) (by omega))
    have hH := hH.subrd 2 rfl 1001 hfr1 (fun _ h => h)
    have hH := hH.subcel 2 rfl 1500 hf1_0 (Rd.inok ((hH.rd 2 rfl)) (by omega) _)
    have hH := hH.subcel 2 rfl 1501 hf1_1 (Rd.inok ((hH.rd 2 rfl)) (by omega) _)
    have hH := hH.subcel 2 rfl 1502 hf1_2 (Rd.inok ((hH.rd 2 rfl)) (by omega) _)
    refine wp_region_lit ?_
    refine l_at hF rfl rfl rfl (x_move (hF.tmp 0 rfl)) ?_; clear hF; intro a hF
    refine l_at hF rfl rfl rfl (x_nil (hF.tmp 16 rfl)) ?_; clear hF; intro a hF
    refine l_at hF rfl rfl rfl (x_faddr Try.underlying61 rfl ty59 (by decide) (hF.tmp 17 rfl) rfl) ?_; clear hF; intro a hF
    refine l_at hF rfl rfl rfl (x_load1 ty59 (hF.tmp 18 rfl) (blk_cell (hH.at 1 rfl) 0 rfl)) ?_; clear hF; intro a hF
    refine l_at hF rfl rfl rfl (x_move (hF.tmp 7 rfl)) ?_; clear hF; intro a hF
    refine l_at hF rfl rfl rfl (x_iaddr_A Try.underlying59 ty115 ((hH.rd 2 rfl)) (hF.tmp 19 rfl) (hF.tmp 20 rfl) (by omega) (by omega) _) ?_; clear hF; intro a hF
    refine l_at hF rfl rfl rfl (x_loadn ty115 (hF.tmp 21 rfl) rfl hfw1) ?_; clear hF; intro a hF
    refine wpList_plain rfl fun K hK => ?_
    refine w_storeA 8 hH ty115 rfl (hF.tmp 8 rfl) (hF.tmp 22 rfl) rfl (by simp [Value.cells, Value.oneCell']) rfl ?_
    clear hH; intro w hH
    refine hK _ _ ?_; clear hK K
    refine wpList_nil ?_
    refine hK4 _ _ ?_
    refine wp_seq_k fun khK6 hK6 => ?_
    refine wp_seq_k fun khK7 hK7 => ?_
    refine wp_region_lit ?_
    refine l_at hF rfl rfl rfl (x_move (hF.tmp 1 rfl)) ?_; clear hF; intro a hF
    refine l_at hF rfl rfl rfl (x_lss (hF.tmp 23 rfl) rfl) ?_; clear hF; intro a hF
    refine l_at hF rfl rfl rfl (x_move (hF.tmp 24 rfl)) ?_; clear hF; intro a hF
    refine split_bool hF 25 rfl (fun hb25 => ?_) (fun hb25 => ?_)
    · have hc25 := hb25; try simp only [Bool.or_eq_true, Bool.and_eq_true, Bool.or_eq_false_iff, Bool.and_eq_false_iff, Bool.not_eq_true', Bool.not_eq_false', decide_eq_true_eq, decide_eq_false_iff_not, Bool.not_true, Bool.not_false] at hc25
      have hno := appS_neg (S := S) (b := bs) hc25
      refine l_offg hF ((wanted_of hF rfl rfl rfl rfl).trans (by rw [hb25]; rfl)) rfl rfl ?_; clear hF; intro a hF
      refine l_offg hF ((wanted_of hF rfl rfl rfl rfl).trans (by rw [hb25]; rfl)) rfl rfl ?_; clear hF; intro a hF
      refine l_offg hF ((wanted_of hF rfl rfl rfl rfl).trans (by rw [hb25]; rfl)) rfl rfl ?_; clear hF; intro a hF
      refine l_at hF rfl rfl rfl (x_pickT (hF.tmp 25 rfl) hb25 rfl) ?_; clear hF; intro a hF
      refine l_at hF rfl rfl rfl (x_move (hF.tmp 29 rfl)) ?_; clear hF; intro a hF
      refine l_offg hF ((wanted_of hF rfl rfl rfl rfl).trans rfl) rfl rfl ?_; clear hF; intro a hF
      refine l_offg hF ((wanted_of hF rfl rfl rfl rfl).trans rfl) rfl rfl ?_; clear hF; intro a hF
      refine l_offg hF ((wanted_of hF rfl rfl rfl rfl).trans rfl) rfl rfl ?_; clear hF; intro a hF
      refine l_offg hF ((wanted_of hF rfl rfl rfl rfl).trans rfl) rfl rfl ?_; clear hF; intro a hF
      refine l_offg hF ((wanted_of hF rfl rfl rfl rfl).trans rfl) rfl rfl ?_; clear hF; intro a hF
      refine l_offg hF ((wanted_of hF rfl rfl rfl rfl).trans rfl) rfl rfl ?_; clear hF; intro a hF
      refine l_offg hF ((wanted_of hF rfl rfl rfl rfl).trans rfl) rfl rfl ?_; clear hF; intro a hF
      refine l_at hF rfl rfl rfl (x_pickT (hF.tmp 30 rfl) rfl rfl) ?_; clear hF; intro a hF
      refine l_at hF rfl rfl rfl (x_move (hF.tmp 38 rfl)) ?_; clear hF; intro a hF
      refine l_offg hF ((wanted_of hF rfl rfl rfl rfl).trans rfl) rfl rfl ?_; clear hF; intro a hF
      refine l_offg hF ((wanted_of hF rfl rfl rfl rfl).trans rfl) rfl rfl ?_; clear hF; intro a hF
      refine l_offg hF ((wanted_of hF rfl rfl rfl rfl).trans rfl) rfl rfl ?_; clear hF; intro a hF
      refine l_offg hF (wanted_un hF rfl rfl rfl rfl) rfl rfl ?_; clear hF; intro a hF
      refine l_offg hF (wanted_un hF rfl rfl rfl rfl) rfl rfl ?_; clear hF; intro a hF
      refine l_offg hF (wanted_un hF rfl rfl rfl rfl) rfl rfl ?_; clear hF; intro a hF
      refine l_offg hF (wanted_un hF rfl rfl rfl rfl) rfl rfl ?_; clear hF; intro a hF
      refine l_offg hF (wanted_un hF rfl rfl rfl rfl) rfl rfl ?_; clear hF; intro a hF
      refine l_offg hF (wanted_un hF rfl rfl rfl rfl) rfl rfl ?_; clear hF; intro a hF
      refine l_offg hF ((wanted_of hF rfl rfl rfl rfl).trans rfl) rfl rfl ?_; clear hF; intro a hF
      refine l_at hF rfl rfl rfl (x_pickT (hF.tmp 39 rfl) rfl rfl) ?_; clear hF; intro a hF
      refine wpList_nil ?_
      refine hK7 _ _ ?_
      refine wp_cond_true (hF.tmp 50 rfl) ?_
      refine wp_seq_k fun khK8 hK8 => ?_
      refine wp_region_lit ?_
      refine l_at hF rfl rfl rfl (x_assign rfl) ?_; clear hF; intro a hF
      refine wpList_nil ?_
      refine hK8 _ _ ?_
      refine wp_ret ?_
      try simp only [Exit.then, Exit.inBlock]
      have hE_ := hno.1
      have hM_ := hno.2
      refine fin_ret hF (res1 hF rfl rfl) ⟨Asn.all [(1, .blk bd (.cells #[.slice As S.length cs, .slice Ar rt.length cr] 61 (0, 0))), (2, .rd_ SgE As S cs oks), (3, .rd_ (.int .u8) Ar rt cr okr)], by rw [hE_] <;> rfl, by rw [hM_]; exact ⟨_, _, _, _, _, _, rfl⟩, grew_of (hH.sub [(1, .blk bd (.cells #[.slice As S.length cs, .slice Ar rt.length cr] 61 (0, 0))), (2, .rd_ SgE As S cs oks), (3, .rd_ (.int .u8) Ar rt cr okr)] (sub_cons (sub_cons (sub_cons (sub_nil _) 3 rfl) 2 rfl) 1 rfl)) (rdin_cons (fun k h => h.elim) (rdin_cons (fun k h => .inr (.inl ⟨2, _, rfl, h⟩)) (rdin_cons (fun k h => .inr (.inl ⟨3, _, rfl, h⟩)) rdin_nil)))⟩
    · have hc25 := hb25; try simp only [Bool.or_eq_true, Bool.and_eq_true, Bool.or_eq_false_iff, Bool.and_eq_false_iff, Bool.not_eq_true', Bool.not_eq_false', decide_eq_true_eq, decide_eq_false_iff_not, Bool.not_true, Bool.not_false] at hc25
      refine l_atg hF ((wanted_of hF rfl rfl rfl rfl).trans (by rw [hb25]; rfl)) rfl rfl (x_move (hF.tmp 2 rfl)) ?_; clear hF; intro a hF
      refine l_atg hF ((wanted_of hF rfl rfl rfl rfl).trans (by rw [hb25]; rfl)) rfl rfl (x_len_slice Try.underlying42 (hF.tmp 26 rfl)) ?_; clear hF; intro a hF
      refine l_atg hF ((wanted_of hF rfl rfl rfl rfl).trans (by rw [hb25]; rfl)) rfl rfl (x_gtr (hF.tmp 27 rfl) rfl) ?_; clear hF; intro a hF
      refine l_at hF rfl rfl rfl (x_pickF (hF.tmp 25 rfl) hb25 (hF.tmp 28 rfl)) ?_; clear hF; intro a hF
      refine l_at hF rfl rfl rfl (x_move (hF.tmp 29 rfl)) ?_; clear hF; intro a hF
      refine split_bool hF 30 rfl (fun hb30 => ?_) (fun hb30 => ?_)
      · have hc30 := hb30; try simp only [Bool.or_eq_true, Bool.and_eq_true, Bool.or_eq_false_iff, Bool.and_eq_false_iff, Bool.not_eq_true', Bool.not_eq_false', decide_eq_true_eq, decide_eq_false_iff_not, Bool.not_true, Bool.not_false] at hc30
        have hno := appS_long (S := S) (n := n) hc30
        refine l_offg hF ((wanted_of hF rfl rfl rfl rfl).trans (by rw [hb30]; rfl)) rfl rfl ?_; clear hF; intro a hF
        refine l_offg hF ((wanted_of hF rfl rfl rfl rfl).trans (by rw [hb30]; rfl)) rfl rfl ?_; clear hF; intro a hF
        refine l_offg hF ((wanted_of hF rfl rfl rfl rfl).trans (by rw [hb30]; rfl)) rfl rfl ?_; clear hF; intro a hF
        refine l_offg hF ((wanted_of hF rfl rfl rfl rfl).trans (by rw [hb30]; rfl)) rfl rfl ?_; clear hF; intro a hF
        refine l_offg hF ((wanted_of hF rfl rfl rfl rfl).trans (by rw [hb30]; rfl)) rfl rfl ?_; clear hF; intro a hF
        refine l_offg hF ((wanted_of hF rfl rfl rfl rfl).trans (by rw [hb30]; rfl)) rfl rfl ?_; clear hF; intro a hF
        refine l_offg hF ((wanted_of hF rfl rfl rfl rfl).trans (by rw [hb30]; rfl)) rfl rfl ?_; clear hF; intro a hF
        refine l_at hF rfl rfl rfl (x_pickT (hF.tmp 30 rfl) hb30 rfl) ?_; clear hF; intro a hF
        refine l_at hF rfl rfl rfl (x_move (hF.tmp 38 rfl)) ?_; clear hF; intro a hF
        refine l_offg hF ((wanted_of hF rfl rfl rfl rfl).trans rfl) rfl rfl ?_; clear hF; intro a hF
        refine l_offg hF ((wanted_of hF rfl rfl rfl rfl).trans rfl) rfl rfl ?_; clear hF; intro a hF
        refine l_offg hF ((wanted_of hF rfl rfl rfl rfl).trans rfl) rfl rfl ?_; clear hF; intro a hF
        refine l_offg hF (wanted_un hF rfl rfl rfl rfl) rfl rfl ?_; clear hF; intro a hF
        refine l_offg hF (wanted_un hF rfl rfl rfl rfl) rfl rfl ?_; clear hF; intro a hF
        refine l_offg hF (wanted_un hF rfl rfl rfl rfl) rfl rfl ?_; clear hF; intro a hF
        refine l_offg hF (wanted_un hF rfl rfl rfl rfl) rfl rfl ?_; clear hF; intro a hF
        refine l_offg hF (wanted_un hF rfl rfl rfl rfl) rfl rfl ?_; clear hF; intro a hF
        refine l_offg hF (wanted_un hF rfl rfl rfl rfl) rfl rfl ?_; clear hF; intro a hF
        refine l_offg hF ((wanted_of hF rfl rfl rfl rfl).trans rfl) rfl rfl ?_; clear hF; intro a hF
        refine l_at hF rfl rfl rfl (x_pickT (hF.tmp 39 rfl) rfl rfl) ?_; clear hF; intro a hF
        refine wpList_nil ?_
        refine hK7 _ _ ?_
        refine wp_cond_true (hF.tmp 50 rfl) ?_
        refine wp_seq_k fun khK9 hK9 => ?_
        refine wp_region_lit ?_
        refine l_at hF rfl rfl rfl (x_assign rfl) ?_; clear hF; intro a hF
        refine wpList_nil ?_
        refine hK9 _ _ ?_
        refine wp_ret ?_
        try simp only [Exit.then, Exit.inBlock]
        have hE_ := hno.1
        have hM_ := hno.2
        refine fin_ret hF (res1 hF rfl rfl) ⟨Asn.all [(1, .blk bd (.cells #[.slice As S.length cs, .slice Ar rt.length cr] 61 (0, 0))), (2, .rd_ SgE As S cs oks), (3, .rd_ (.int .u8) Ar rt cr okr)], by rw [hE_] <;> rfl, by rw [hM_]; exact ⟨_, _, _, _, _, _, rfl⟩, grew_of (hH.sub [(1, .blk bd (.cells #[.slice As S.length cs, .slice Ar rt.length cr] 61 (0, 0))), (2, .rd_ SgE As S cs oks), (3, .rd_ (.int .u8) Ar rt cr okr)] (sub_cons (sub_cons (sub_cons (sub_nil _) 3 rfl) 2 rfl) 1 rfl)) (rdin_cons (fun k h => h.elim) (rdin_cons (fun k h => .inr (.inl ⟨2, _, rfl, h⟩)) (rdin_cons (fun k h => .inr (.inl ⟨3, _, rfl, h⟩)) rdin_nil)))⟩
      · have hc30 := hb30; try simp only [Bool.or_eq_true, Bool.and_eq_true, Bool.or_eq_false_iff, Bool.and_eq_false_iff, Bool.not_eq_true', Bool.not_eq_false', decide_eq_true_eq, decide_eq_false_iff_not, Bool.not_true, Bool.not_false] at hc30
        refine l_atg hF ((wanted_of hF rfl rfl rfl rfl).trans (by rw [hb30]; rfl)) rfl rfl (x_faddr Try.underlying115 rfl ty42 (by decide) (hF.tmp 8 rfl) rfl) ?_; clear hF; intro a hF
        refine l_atg hF ((wanted_of hF rfl rfl rfl rfl).trans (by rw [hb30]; rfl)) rfl rfl (x_load1 ty42 (hF.tmp 31 rfl) (blk_cell (hH.at 8 rfl) 1 rfl)) ?_; clear hF; intro a hF
        refine l_atg hF ((wanted_of hF rfl rfl rfl rfl).trans (by rw [hb30]; rfl)) rfl rfl (x_len_slice Try.underlying42 (hF.tmp 32 rfl)) ?_; clear hF; intro a hF
        refine l_atg hF ((wanted_of hF rfl rfl rfl rfl).trans (by rw [hb30]; rfl)) rfl rfl (x_move (hF.tmp 2 rfl)) ?_; clear hF; intro a hF
        refine l_atg hF ((wanted_of hF rfl rfl rfl rfl).trans (by rw [hb30]; rfl)) rfl rfl (x_len_slice Try.underlying42 (hF.tmp 34 rfl)) ?_; clear hF; intro a hF
        refine l_atg hF ((wanted_of hF rfl rfl rfl rfl).trans (by rw [hb30]; rfl)) rfl rfl (x_add (hF.tmp 33 rfl) (hF.tmp 35 rfl) (w64 (by omega) (by omega))) ?_; clear hF; intro a hF
        refine l_atg hF ((wanted_of hF rfl rfl rfl rfl).trans (by rw [hb30]; rfl)) rfl rfl (x_gtr (hF.tmp 36 rfl) rfl) ?_; clear hF; intro a hF
        refine l_at hF rfl rfl rfl (x_pickF (hF.tmp 30 rfl) hb30 (hF.tmp 37 rfl)) ?_; clear hF; intro a hF
        refine l_at hF rfl rfl rfl (x_move (hF.tmp 38 rfl)) ?_; clear hF; intro a hF
        refine split_bool hF 39 rfl (fun hb39 => ?_) (fun hb39 => ?_)
        · have hc39 := hb39; try simp only [Bool.or_eq_true, Bool.and_eq_true, Bool.or_eq_false_iff, Bool.and_eq_false_iff, Bool.not_eq_true', Bool.not_eq_false', decide_eq_true_eq, decide_eq_false_iff_not, Bool.not_true, Bool.not_false] at hc39
          have hno := appS_more hat.2.1 hc39
          refine l_offg hF ((wanted_of hF rfl rfl rfl rfl).trans (by rw [hb39]; rfl)) rfl rfl ?_; clear hF; intro a hF
          refine l_offg hF ((wanted_of hF rfl rfl rfl rfl).trans (by rw [hb39]; rfl)) rfl rfl ?_; clear hF; intro a hF
          refine l_offg hF ((wanted_of hF rfl rfl rfl rfl).trans (by rw [hb39]; rfl)) rfl rfl ?_; clear hF; intro a hF
          refine l_offg hF (wanted_un hF rfl rfl rfl rfl) rfl rfl ?_; clear hF; intro a hF
          refine l_offg hF (wanted_un hF rfl rfl rfl rfl) rfl rfl ?_; clear hF; intro a hF
          refine l_offg hF (wanted_un hF rfl rfl rfl rfl) rfl rfl ?_; clear hF; intro a hF
          refine l_offg hF (wanted_un hF rfl rfl rfl rfl) rfl rfl ?_; clear hF; intro a hF
          refine l_offg hF (wanted_un hF rfl rfl rfl rfl) rfl rfl ?_; clear hF; intro a hF
          refine l_offg hF (wanted_un hF rfl rfl rfl rfl) rfl rfl ?_; clear hF; intro a hF
          refine l_offg hF ((wanted_of hF rfl rfl rfl rfl).trans (by rw [hb39]; rfl)) rfl rfl ?_; clear hF; intro a hF
          refine l_at hF rfl rfl rfl (x_pickT (hF.tmp 39 rfl) hb39 rfl) ?_; clear hF; intro a hF
          refine wpList_nil ?_
          refine hK7 _ _ ?_
          refine wp_cond_true (hF.tmp 50 rfl) ?_
          refine wp_seq_k fun khK10 hK10 => ?_
          refine wp_region_lit ?_
          refine l_at hF rfl rfl rfl (x_assign rfl) ?_; clear hF; intro a hF
          refine wpList_nil ?_
          refine hK10 _ _ ?_
          refine wp_ret ?_
          try simp only [Exit.then, Exit.inBlock]
          have hE_ := hno.1
          have hM_ := hno.2
          refine fin_ret hF (res1 hF rfl rfl) ⟨Asn.all [(1, .blk bd (.cells #[.slice As S.length cs, .slice Ar rt.length cr] 61 (0, 0))), (2, .rd_ SgE As S cs oks), (3, .rd_ (.int .u8) Ar rt cr okr)], by rw [hE_] <;> rfl, by rw [hM_]; exact ⟨_, _, _, _, _, _, rfl⟩, grew_of (hH.sub [(1, .blk bd (.cells #[.slice As S.length cs, .slice Ar rt.length cr] 61 (0, 0))), (2, .rd_ SgE As S cs oks), (3, .rd_ (.int .u8) Ar rt cr okr)] (sub_cons (sub_cons (sub_cons (sub_nil _) 3 rfl) 2 rfl) 1 rfl)) (rdin_cons (fun k h => h.elim) (rdin_cons (fun k h => .inr (.inl ⟨2, _, rfl, h⟩)) (rdin_cons (fun k h => .inr (.inl ⟨3, _, rfl, h⟩)) rdin_nil)))⟩
        · have hc39 := hb39; try simp only [Bool.or_eq_true, Bool.and_eq_true, Bool.or_eq_false_iff, Bool.and_eq_false_iff, Bool.not_eq_true', Bool.not_eq_false', decide_eq_true_eq, decide_eq_false_iff_not, Bool.not_true, Bool.not_false] at hc39
          refine l_atg hF ((wanted_of hF rfl rfl rfl rfl).trans (by rw [hb39]; rfl)) rfl rfl (x_move (hF.tmp 7 rfl)) ?_; clear hF; intro a hF
          refine l_atg hF ((wanted_of hF rfl rfl rfl rfl).trans (by rw [hb39]; rfl)) rfl rfl (x_lss (hF.tmp 40 rfl) rfl) ?_; clear hF; intro a hF
          refine l_atg hF ((wanted_of hF rfl rfl rfl rfl).trans (by rw [hb39]; rfl)) rfl rfl (x_move (hF.tmp 41 rfl)) ?_; clear hF; intro a hF
          refine split_bool hF 42 rfl (fun hb42 => ?_) (fun hb42 => ?_)
          · have hc42 := hb42; try simp only [Bool.or_eq_true, Bool.and_eq_true, Bool.or_eq_false_iff, Bool.and_eq_false_iff, Bool.not_eq_true', Bool.not_eq_false', decide_eq_true_eq, decide_eq_false_iff_not, Bool.not_true, Bool.not_false] at hc42
            exact absurd hc15 (by omega)
          · have hc42 := hb42; try simp only [Bool.or_eq_true, Bool.and_eq_true, Bool.or_eq_false_iff, Bool.and_eq_false_iff, Bool.not_eq_true', Bool.not_eq_false', decide_eq_true_eq, decide_eq_false_iff_not, Bool.not_true, Bool.not_false] at hc42
            refine l_offg hF ((wanted_of hF rfl rfl rfl rfl).trans (by rw [hb42]; rfl)) rfl rfl ?_; clear hF; intro a hF
            refine l_offg hF ((wanted_of hF rfl rfl rfl rfl).trans (by rw [hb42]; rfl)) rfl rfl ?_; clear hF; intro a hF
            refine l_offg hF ((wanted_of hF rfl rfl rfl rfl).trans (by rw [hb42]; rfl)) rfl rfl ?_; clear hF; intro a hF
            refine l_offg hF ((wanted_of hF rfl rfl rfl rfl).trans (by rw [hb42]; rfl)) rfl rfl ?_; clear hF; intro a hF
            refine l_offg hF ((wanted_of hF rfl rfl rfl rfl).trans (by rw [hb42]; rfl)) rfl rfl ?_; clear hF; intro a hF
            refine l_offg hF ((wanted_of hF rfl rfl rfl rfl).trans (by rw [hb42]; rfl)) rfl rfl ?_; clear hF; intro a hF
            refine l_atg hF ((wanted_of hF rfl rfl rfl rfl).trans (by rw [hb39]; rfl)) rfl rfl (x_pickF (hF.tmp 42 rfl) hb42 rfl) ?_; clear hF; intro a hF
            refine l_at hF rfl rfl rfl (x_pickF (hF.tmp 39 rfl) hb39 (hF.tmp 49 rfl)) ?_; clear hF; intro a hF
            refine wpList_nil ?_
            refine hK7 _ _ ?_
            refine wp_cond_false (hF.tmp 50 rfl) ?_
            refine wp_skip ?_
            refine hK6 _ _ ?_
            refine wp_seq_k fun khK11 hK11 => ?_
            refine wp_region_lit ?_
            refine wpList_plain rfl fun K hK => ?_
            refine w_lit0 (.int .u8) 51 hF hH rfl Try.underlying42 ty5 ?_
            clear hF hH; intro a w b51 hF hH
            refine hK _ _ ?_; clear hK K
            refine l_at hF rfl rfl rfl (x_faddr Try.underlying115 rfl ty42 (by decide) (hF.tmp 8 rfl) rfl) ?_; clear hF; intro a hF
            refine l_at hF rfl rfl rfl (x_load1 ty42 (hF.tmp 52 rfl) (blk_cell (hH.at 8 rfl) 1 rfl)) ?_; clear hF; intro a hF
            refine wpList_plain rfl fun K hK => ?_
            refine w_append 51 1001 (xs := ([])) (ys := ((gq S (fnd S n)).2.1)) hF hH rfl Try.underlying42 ty5 rfl rfl rfl rfl ((hH.rd 1001 rfl)) (by intro k_ hk_; exact .inr hk_) (hF.tmp 51 rfl) (hF.tmp 53 rfl) (by simp only [List.length_nil]; omega) (by simp only [List.length_nil, maxLen]; omega) (fun _ => False) (fun w' v' h => row_flat h _) (fun k_ hk_ => hk_.elim) ?_
            clear hF hH; intro a w v54 hF hH
            refine hK _ _ ?_; clear hK K
            try rw [List.nil_append] at hF hH
            refine l_at hF rfl rfl rfl (x_move (hF.tmp 2 rfl)) ?_; clear hF; intro a hF
            refine wpList_plain rfl fun K hK => ?_
            refine w_append 51 901 (xs := ((gq S (fnd S n)).2.1)) (ys := bs) hF hH rfl Try.underlying42 ty5 rfl rfl rfl rfl ((hH.rd 901 rfl)) (by intro k_ hk_; exact .inr hk_) (hF.tmp 54 rfl) (hF.tmp 55 rfl) (by (try simp only [List.length_nil]); omega) (by unfold maxLen; (try simp only [List.length_nil]); omega) (fun _ => False) (fun w' v' h => row_flat h _) (fun k_ hk_ => hk_.elim) ?_
            clear hF hH; intro a w v56 hF hH
            refine hK _ _ ?_; clear hK K
            obtain ⟨A56, c56, rfl⟩ := (hH.row 51 rfl).form
            have hb56_ : ∀ k, (Value.slice A56 ((gq S (fnd S n)).2.1 ++ bs).length c56).ownBlock = some k → _ := hH.mine 51 _ rfl
            have hH := hH.freeze 51 rfl (fun k => (Value.slice A56 ((gq S (fnd S n)).2.1 ++ bs).length c56).ownBlock = some k) (fun k => ⟨fun h => .inr h, fun h => h.resolve_left id⟩)
            refine l_at hF rfl rfl rfl (x_faddr Try.underlying115 rfl ty42 (by decide) (hF.tmp 8 rfl) rfl) ?_; clear hF; intro a hF
            refine wpList_plain rfl fun K hK => ?_
            refine w_store 8 hH ty42 rfl (hF.tmp 57 rfl) (hF.tmp 56 rfl) rfl (one1 rfl rfl) (by first | decide | exact Nat.le_of_ble_eq_true rfl) ?_
            clear hH; intro w hH
            refine hK _ _ ?_; clear hK K
            refine wpList_nil ?_
            refine hK11 _ _ ?_
            refine wp_seq_k fun khK12 hK12 => ?_
            refine wp_region_lit ?_
            refine l_at hF rfl rfl rfl (x_move (hF.tmp 0 rfl)) ?_; clear hF; intro a hF
            refine l_at hF rfl rfl rfl (x_loadn ty115 (hF.tmp 8 rfl) rfl (blk_whole (hH.at 8 rfl))) ?_; clear hF; intro a hF
            refine wpList_plain rfl fun K hK => ?_
            refine w_call hF (x_enter Try.func70 (by kernel_rfl) rfl (by simp only [List.map_toArray, List.map_cons, List.map_nil, hF.tmp 58 rfl, hF.tmp 59 rfl] <;> rfl)) (rwith_calls _ ⟨_, _, _, _, _, _, rfl⟩ (hH.sub [(1, .blk bd (.cells #[.slice As S.length cs, .slice Ar rt.length cr] 61 (0, 0))), (2, .rd_ SgE As S cs oks), (3, .rd_ (.int .u8) Ar rt cr okr)] (sub_cons (sub_cons (sub_cons (sub_nil _) 3 rfl) 2 rfl) 1 rfl)).okAll hSl ((gq S (fnd S n)).1, (((gq S (fnd S n)).2.1 ++ bs), (gq S (fnd S n)).2.2)) ((hH.rd 51 rfl)) (fun k hk => hH.inb 51 _ rfl k (.inr hk)) (Hp.sepL hH (L := [(1, .blk bd (.cells #[.slice As S.length cs, .slice Ar rt.length cr] 61 (0, 0))), (2, .rd_ SgE As S cs oks), (3, .rd_ (.int .u8) Ar rt cr okr)]) (sub_cons (sub_cons (sub_cons (sub_nil _) 3 rfl) 2 rfl) 1 rfl) 51 rfl rfl)) rfl rfl ?_
            rintro _ w ⟨X9, rfl, hR9, hG9⟩; refine ⟨_, rfl, ?_⟩; clear hF; intro a hF; obtain ⟨As9, cs9, Ar9, cr9, oks9, okr9, rfl⟩ := hR9; have hms9 := hH.mods.size; have hbn9 : ∀ k, RdL [(1, .blk bd (.cells #[.slice As9 (withR S ((gq S (fnd S n)).1, (((gq S (fnd S n)).2.1 ++ bs), (gq S (fnd S n)).2.2))).length cs9, .slice Ar9 rt.length cr9] 61 (0, 0))), (2, .rd_ SgE As9 (withR S ((gq S (fnd S n)).1, (((gq S (fnd S n)).2.1 ++ bs), (gq S (fnd S n)).2.2))) cs9 oks9), (3, .rd_ (.int .u8) Ar9 rt cr9 okr9)] k → OwnL [(1, .blk bd (.cells #[.slice As S.length cs, .slice Ar rt.length cr] 61 (0, 0))), (2, .rd_ SgE As S cs oks), (3, .rd_ (.int .u8) Ar rt cr okr)] k ∨ RdL [(1, .blk bd (.cells #[.slice As S.length cs, .slice Ar rt.length cr] 61 (0, 0))), (2, .rd_ SgE As S cs oks), (3, .rd_ (.int .u8) Ar rt cr okr)] k ∨ (fun _ => False : Nat → Prop) k ∨ w0.heap.size ≤ k := (fun k hk => (hG9.rd k hk).elim .inl (fun h => h.elim (fun h => .inr (.inl h)) (fun h => h.elim (fun h => (hb56_ k h).elim .inl (fun h => .inr (.inr (.inr h)))) (fun h => .inr (.inr (.inr (Nat.le_trans hms9 h))))))); have hH := Hp.turnL hH (L := [(1, .blk bd (.cells #[.slice As S.length cs, .slice Ar rt.length cr] 61 (0, 0))), (2, .rd_ SgE As S cs oks), (3, .rd_ (.int .u8) Ar rt cr okr)]) (sub_cons (sub_cons (sub_cons (sub_nil _) 3 rfl) 2 rfl) 1 rfl) hG9 (fun k hk => ⟨51, _, rfl, hk⟩) (cover_cons rfl (cover_cons rfl (cover_cons rfl (cover_nil _))))
            refine hK _ _ ?_; clear hK K
            refine wpList_nil ?_
            refine hK12 _ _ ?_
            refine wp_seq_k fun khK13 hK13 => ?_
            refine wp_region_lit ?_
            refine l_at hF rfl rfl rfl (x_assign rfl) ?_; clear hF; intro a hF
            refine wpList_nil ?_
            refine hK13 _ _ ?_
            refine wp_ret ?_
            try simp only [Exit.then, Exit.inBlock]
            have hE_ := (appS_old hat.2.2 hat.2.1 hc25 hc39).1
            have hM_ := (appS_old hat.2.2 hat.2.1 hc25 hc39).2
            refine fin_ret hF (res1 hF rfl rfl) ⟨Asn.all [(1, .blk bd (.cells #[.slice As9 (withR S ((gq S (fnd S n)).1, (((gq S (fnd S n)).2.1 ++ bs), (gq S (fnd S n)).2.2))).length cs9, .slice Ar9 rt.length cr9] 61 (0, 0))), (2, .rd_ SgE As9 (withR S ((gq S (fnd S n)).1, (((gq S (fnd S n)).2.1 ++ bs), (gq S (fnd S n)).2.2))) cs9 oks9), (3, .rd_ (.int .u8) Ar9 rt cr9 okr9)], by rw [hE_] <;> rfl, by rw [hM_]; exact ⟨_, _, _, _, _, _, rfl⟩, grew_of (hH.sub [(1, .blk bd (.cells #[.slice As9 (withR S ((gq S (fnd S n)).1, (((gq S (fnd S n)).2.1 ++ bs), (gq S (fnd S n)).2.2))).length cs9, .slice Ar9 rt.length cr9] 61 (0, 0))), (2, .rd_ SgE As9 (withR S ((gq S (fnd S n)).1, (((gq S (fnd S n)).2.1 ++ bs), (gq S (fnd S n)).2.2))) cs9 oks9), (3, .rd_ (.int .u8) Ar9 rt cr9 okr9)] (sub_cons (sub_cons (sub_cons (sub_nil _) 3 rfl) 2 rfl) 1 rfl)) (rdin_cons (fun k h => h.elim) (rdin_cons (fun k h => hbn9 k ⟨2, _, rfl, h⟩) (rdin_cons (fun k h => hbn9 k ⟨3, _, rfl, h⟩) rdin_nil)))⟩
  · try simp only [Bool.or_eq_true, Bool.and_eq_true, Bool.or_eq_false_iff, Bool.and_eq_false_iff, Bool.not_eq_true', Bool.not_eq_false', decide_eq_true_eq, decide_eq_false_iff_not, Bool.not_true, Bool.not_false] at hc15
    have hc15n : fnd S n < 0 := by omega
    refine wp_skip ?_
    refine hK4 _ _ ?_
    refine wp_seq_k fun khK14 hK14 => ?_
    refine wp_seq_k fun khK15 hK15 => ?_
    refine wp_region_lit ?_
    refine l_at hF rfl rfl rfl (x_move (hF.tmp 1 rfl)) ?_; clear hF; intro a hF
    refine l_at hF rfl rfl rfl (x_lss (hF.tmp 23 rfl) rfl) ?_; clear hF; intro a hF
    refine l_at hF rfl rfl rfl (x_move (hF.tmp 24 rfl)) ?_; clear hF; intro a hF
    refine split_bool hF 25 rfl (fun hb25 => ?_) (fun hb25 => ?_)
    · have hc25 := hb25; try simp only [Bool.or_eq_true, Bool.and_eq_true, Bool.or_eq_false_iff, Bool.and_eq_false_iff, Bool.not_eq_true', Bool.not_eq_false', decide_eq_true_eq, decide_eq_false_iff_not, Bool.not_true, Bool.not_false] at hc25
      have hno := appS_neg (S := S) (b := bs) hc25
      refine l_offg hF ((wanted_of hF rfl rfl rfl rfl).trans (by rw [hb25]; rfl)) rfl rfl ?_; clear hF; intro a hF
      refine l_offg hF ((wanted_of hF rfl rfl rfl rfl).trans (by rw [hb25]; rfl)) rfl rfl ?_; clear hF; intro a hF
      refine l_offg hF ((wanted_of hF rfl rfl rfl rfl).trans (by rw [hb25]; rfl)) rfl rfl ?_; clear hF; intro a hF
      refine l_at hF rfl rfl rfl (x_pickT (hF.tmp 25 rfl) hb25 rfl) ?_; clear hF; intro a hF
      refine l_at hF rfl rfl rfl (x_move (hF.tmp 29 rfl)) ?_; clear hF; intro a hF
      refine l_offg hF ((wanted_of hF rfl rfl rfl rfl).trans rfl) rfl rfl ?_; clear hF; intro a hF
      refine l_offg hF ((wanted_of hF rfl rfl rfl rfl).trans rfl) rfl rfl ?_; clear hF; intro a hF
      refine l_offg hF ((wanted_of hF rfl rfl rfl rfl).trans rfl) rfl rfl ?_; clear hF; intro a hF
      refine l_offg hF ((wanted_of hF rfl rfl rfl rfl).trans rfl) rfl rfl ?_; clear hF; intro a hF
      refine l_offg hF ((wanted_of hF rfl rfl rfl rfl).trans rfl) rfl rfl ?_; clear hF; intro a hF
      refine l_offg hF ((wanted_of hF rfl rfl rfl rfl).trans rfl) rfl rfl ?_; clear hF; intro a hF
      refine l_offg hF ((wanted_of hF rfl rfl rfl rfl).trans rfl) rfl rfl ?_; clear hF; intro a hF
      refine l_at hF rfl rfl rfl (x_pickT (hF.tmp 30 rfl) rfl rfl) ?_; clear hF; intro a hF
      refine l_at hF rfl rfl rfl (x_move (hF.tmp 38 rfl)) ?_; clear hF; intro a hF
      refine l_offg hF ((wanted_of hF rfl rfl rfl rfl).trans rfl) rfl rfl ?_; clear hF; intro a hF
      refine l_offg hF ((wanted_of hF rfl rfl rfl rfl).trans rfl) rfl rfl ?_; clear hF; intro a hF
      refine l_offg hF ((wanted_of hF rfl rfl rfl rfl).trans rfl) rfl rfl ?_; clear hF; intro a hF
      refine l_offg hF (wanted_un hF rfl rfl rfl rfl) rfl rfl ?_; clear hF; intro a hF
      refine l_offg hF (wanted_un hF rfl rfl rfl rfl) rfl rfl ?_; clear hF; intro a hF
      refine l_offg hF (wanted_un hF rfl rfl rfl rfl) rfl rfl ?_; clear hF; intro a hF
      refine l_offg hF (wanted_un hF rfl rfl rfl rfl) rfl rfl ?_; clear hF; intro a hF
      refine l_offg hF (wanted_un hF rfl rfl rfl rfl) rfl rfl ?_; clear hF; intro a hF
      refine l_offg hF (wanted_un hF rfl rfl rfl rfl) rfl rfl ?_; clear hF; intro a hF
      refine l_offg hF ((wanted_of hF rfl rfl rfl rfl).trans rfl) rfl rfl ?_; clear hF; intro a hF
      refine l_at hF rfl rfl rfl (x_pickT (hF.tmp 39 rfl) rfl rfl) ?_; clear hF; intro a hF
      refine wpList_nil ?_
      refine hK15 _ _ ?_
      refine wp_cond_true (hF.tmp 50 rfl) ?_
      refine wp_seq_k fun khK16 hK16 => ?_
      refine wp_region_lit ?_
      refine l_at hF rfl rfl rfl (x_assign rfl) ?_; clear hF; intro a hF
      refine wpList_nil ?_
      refine hK16 _ _ ?_
      refine wp_ret ?_
      try simp only [Exit.then, Exit.inBlock]
      have hE_ := hno.1
      have hM_ := hno.2
      refine fin_ret hF (res1 hF rfl rfl) ⟨Asn.all [(1, .blk bd (.cells #[.slice As S.length cs, .slice Ar rt.length cr] 61 (0, 0))), (2, .rd_ SgE As S cs oks), (3, .rd_ (.int .u8) Ar rt cr okr)], by rw [hE_] <;> rfl, by rw [hM_]; exact ⟨_, _, _, _, _, _, rfl⟩, grew_of (hH.sub [(1, .blk bd (.cells #[.slice As S.length cs, .slice Ar rt.length cr] 61 (0, 0))), (2, .rd_ SgE As S cs oks), (3, .rd_ (.int .u8) Ar rt cr okr)] (sub_cons (sub_cons (sub_cons (sub_nil _) 3 rfl) 2 rfl) 1 rfl)) (rdin_cons (fun k h => h.elim) (rdin_cons (fun k h => .inr (.inl ⟨2, _, rfl, h⟩)) (rdin_cons (fun k h => .inr (.inl ⟨3, _, rfl, h⟩)) rdin_nil)))⟩
    · have hc25 := hb25; try simp only [Bool.or_eq_true, Bool.and_eq_true, Bool.or_eq_false_iff, Bool.and_eq_false_iff, Bool.not_eq_true', Bool.not_eq_false', decide_eq_true_eq, decide_eq_false_iff_not, Bool.not_true, Bool.not_false] at hc25
      refine l_atg hF ((wanted_of hF rfl rfl rfl rfl).trans (by rw [hb25]; rfl)) rfl rfl (x_move (hF.tmp 2 rfl)) ?_; clear hF; intro a hF
      refine l_atg hF ((wanted_of hF rfl rfl rfl rfl).trans (by rw [hb25]; rfl)) rfl rfl (x_len_slice Try.underlying42 (hF.tmp 26 rfl)) ?_; clear hF; intro a hF
      refine l_atg hF ((wanted_of hF rfl rfl rfl rfl).trans (by rw [hb25]; rfl)) rfl rfl (x_gtr (hF.tmp 27 rfl) rfl) ?_; clear hF; intro a hF
      refine l_at hF rfl rfl rfl (x_pickF (hF.tmp 25 rfl) hb25 (hF.tmp 28 rfl)) ?_; clear hF; intro a hF
      refine l_at hF rfl rfl rfl (x_move (hF.tmp 29 rfl)) ?_; clear hF; intro a hF
      refine split_bool hF 30 rfl (fun hb30 => ?_) (fun hb30 => ?_)
      · have hc30 := hb30; try simp only [Bool.or_eq_true, Bool.and_eq_true, Bool.or_eq_false_iff, Bool.and_eq_false_iff, Bool.not_eq_true', Bool.not_eq_false', decide_eq_true_eq, decide_eq_false_iff_not, Bool.not_true, Bool.not_false] at hc30
        have hno := appS_long (S := S) (n := n) hc30
        refine l_offg hF ((wanted_of hF rfl rfl rfl rfl).trans (by rw [hb30]; rfl)) rfl rfl ?_; clear hF; intro a hF
        refine l_offg hF ((wanted_of hF rfl rfl rfl rfl).trans (by rw [hb30]; rfl)) rfl rfl ?_; clear hF; intro a hF
        refine l_offg hF ((wanted_of hF rfl rfl rfl rfl).trans (by rw [hb30]; rfl)) rfl rfl ?_; clear hF; intro a hF
        refine l_offg hF ((wanted_of hF rfl rfl rfl rfl).trans (by rw [hb30]; rfl)) rfl rfl ?_; clear hF; intro a hF
        refine l_offg hF ((wanted_of hF rfl rfl rfl rfl).trans (by rw [hb30]; rfl)) rfl rfl ?_; clear hF; intro a hF
        refine l_offg hF ((wanted_of hF rfl rfl rfl rfl).trans (by rw [hb30]; rfl)) rfl rfl ?_; clear hF; intro a hF
        refine l_offg hF ((wanted_of hF rfl rfl rfl rfl).trans (by rw [hb30]; rfl)) rfl rfl ?_; clear hF; intro a hF
        refine l_at hF rfl rfl rfl (x_pickT (hF.tmp 30 rfl) hb30 rfl) ?_; clear hF; intro a hF
        refine l_at hF rfl rfl rfl (x_move (hF.tmp 38 rfl)) ?_; clear hF; intro a hF
        refine l_offg hF ((wanted_of hF rfl rfl rfl rfl).trans rfl) rfl rfl ?_; clear hF; intro a hF
        refine l_offg hF ((wanted_of hF rfl rfl rfl rfl).trans rfl) rfl rfl ?_; clear hF; intro a hF
        refine l_offg hF ((wanted_of hF rfl rfl rfl rfl).trans rfl) rfl rfl ?_; clear hF; intro a hF
        refine l_offg hF (wanted_un hF rfl rfl rfl rfl) rfl rfl ?_; clear hF; intro a hF
        refine l_offg hF (wanted_un hF rfl rfl rfl rfl) rfl rfl ?_; clear hF; intro a hF
        refine l_offg hF (wanted_un hF rfl rfl rfl rfl) rfl rfl ?_; clear hF; intro a hF
        refine l_offg hF (wanted_un hF rfl rfl rfl rfl) rfl rfl ?_; clear hF; intro a hF
        refine l_offg hF (wanted_un hF rfl rfl rfl rfl) rfl rfl ?_; clear hF; intro a hF
        refine l_offg hF (wanted_un hF rfl rfl rfl rfl) rfl rfl ?_; clear hF; intro a hF
        refine l_offg hF ((wanted_of hF rfl rfl rfl rfl).trans rfl) rfl rfl ?_; clear hF; intro a hF
        refine l_at hF rfl rfl rfl (x_pickT (hF.tmp 39 rfl) rfl rfl) ?_; clear hF; intro a hF
        refine wpList_nil ?_
        refine hK15 _ _ ?_
        refine wp_cond_true (hF.tmp 50 rfl) ?_
        refine wp_seq_k fun khK17 hK17 => ?_
        refine wp_region_lit ?_
        refine l_at hF rfl rfl rfl (x_assign rfl) ?_; clear hF; intro a hF
        refine wpList_nil ?_
        refine hK17 _ _ ?_
        refine wp_ret ?_
        try simp only [Exit.then, Exit.inBlock]
        have hE_ := hno.1
        have hM_ := hno.2
        refine fin_ret hF (res1 hF rfl rfl) ⟨Asn.all [(1, .blk bd (.cells #[.slice As S.length cs, .slice Ar rt.length cr] 61 (0, 0))), (2, .rd_ SgE As S cs oks), (3, .rd_ (.int .u8) Ar rt cr okr)], by rw [hE_] <;> rfl, by rw [hM_]; exact ⟨_, _, _, _, _, _, rfl⟩, grew_of (hH.sub [(1, .blk bd (.cells #[.slice As S.length cs, .slice Ar rt.length cr] 61 (0, 0))), (2, .rd_ SgE As S cs oks), (3, .rd_ (.int .u8) Ar rt cr okr)] (sub_cons (sub_cons (sub_cons (sub_nil _) 3 rfl) 2 rfl) 1 rfl)) (rdin_cons (fun k h => h.elim) (rdin_cons (fun k h => .inr (.inl ⟨2, _, rfl, h⟩)) (rdin_cons (fun k h => .inr (.inl ⟨3, _, rfl, h⟩)) rdin_nil)))⟩
      · have hc30 := hb30; try simp only [Bool.or_eq_true, Bool.and_eq_true, Bool.or_eq_false_iff, Bool.and_eq_false_iff, Bool.not_eq_true', Bool.not_eq_false', decide_eq_true_eq, decide_eq_false_iff_not, Bool.not_true, Bool.not_false] at hc30
        refine l_atg hF ((wanted_of hF rfl rfl rfl rfl).trans (by rw [hb30]; rfl)) rfl rfl (x_faddr Try.underlying115 rfl ty42 (by decide) (hF.tmp 8 rfl) rfl) ?_; clear hF; intro a hF
        refine l_atg hF ((wanted_of hF rfl rfl rfl rfl).trans (by rw [hb30]; rfl)) rfl rfl (x_load1 ty42 (hF.tmp 31 rfl) (blk_cell (hH.at 8 rfl) 1 rfl)) ?_; clear hF; intro a hF
        refine l_atg hF ((wanted_of hF rfl rfl rfl rfl).trans (by rw [hb30]; rfl)) rfl rfl (x_len_slice Try.underlying42 (hF.tmp 32 rfl)) ?_; clear hF; intro a hF
        refine l_atg hF ((wanted_of hF rfl rfl rfl rfl).trans (by rw [hb30]; rfl)) rfl rfl (x_move (hF.tmp 2 rfl)) ?_; clear hF; intro a hF
        refine l_atg hF ((wanted_of hF rfl rfl rfl rfl).trans (by rw [hb30]; rfl)) rfl rfl (x_len_slice Try.underlying42 (hF.tmp 34 rfl)) ?_; clear hF; intro a hF
        refine l_atg hF ((wanted_of hF rfl rfl rfl rfl).trans (by rw [hb30]; rfl)) rfl rfl (x_add (hF.tmp 33 rfl) (hF.tmp 35 rfl) (w64 (by omega) (by omega))) ?_; clear hF; intro a hF
        refine l_atg hF ((wanted_of hF rfl rfl rfl rfl).trans (by rw [hb30]; rfl)) rfl rfl (x_gtr (hF.tmp 36 rfl) rfl) ?_; clear hF; intro a hF
        refine l_at hF rfl rfl rfl (x_pickF (hF.tmp 30 rfl) hb30 (hF.tmp 37 rfl)) ?_; clear hF; intro a hF
        refine l_at hF rfl rfl rfl (x_move (hF.tmp 38 rfl)) ?_; clear hF; intro a hF
        refine split_bool hF 39 rfl (fun hb39 => ?_) (fun hb39 => ?_)
        · have hc39 := hb39; try simp only [Bool.or_eq_true, Bool.and_eq_true, Bool.or_eq_false_iff, Bool.and_eq_false_iff, Bool.not_eq_true', Bool.not_eq_false', decide_eq_true_eq, decide_eq_false_iff_not, Bool.not_true, Bool.not_false] at hc39
          have hno := appS_long (S := S) (n := n) (b := bs) (by (try simp only [List.length_nil] at hc39); omega)
          refine l_offg hF ((wanted_of hF rfl rfl rfl rfl).trans (by rw [hb39]; rfl)) rfl rfl ?_; clear hF; intro a hF
          refine l_offg hF ((wanted_of hF rfl rfl rfl rfl).trans (by rw [hb39]; rfl)) rfl rfl ?_; clear hF; intro a hF
          refine l_offg hF ((wanted_of hF rfl rfl rfl rfl).trans (by rw [hb39]; rfl)) rfl rfl ?_; clear hF; intro a hF
          refine l_offg hF (wanted_un hF rfl rfl rfl rfl) rfl rfl ?_; clear hF; intro a hF
          refine l_offg hF (wanted_un hF rfl rfl rfl rfl) rfl rfl ?_; clear hF; intro a hF
          refine l_offg hF (wanted_un hF rfl rfl rfl rfl) rfl rfl ?_; clear hF; intro a hF
          refine l_offg hF (wanted_un hF rfl rfl rfl rfl) rfl rfl ?_; clear hF; intro a hF
          refine l_offg hF (wanted_un hF rfl rfl rfl rfl) rfl rfl ?_; clear hF; intro a hF
          refine l_offg hF (wanted_un hF rfl rfl rfl rfl) rfl rfl ?_; clear hF; intro a hF
          refine l_offg hF ((wanted_of hF rfl rfl rfl rfl).trans (by rw [hb39]; rfl)) rfl rfl ?_; clear hF; intro a hF
          refine l_at hF rfl rfl rfl (x_pickT (hF.tmp 39 rfl) hb39 rfl) ?_; clear hF; intro a hF
          refine wpList_nil ?_
          refine hK15 _ _ ?_
          refine wp_cond_true (hF.tmp 50 rfl) ?_
          refine wp_seq_k fun khK18 hK18 => ?_
          refine wp_region_lit ?_
          refine l_at hF rfl rfl rfl (x_assign rfl) ?_; clear hF; intro a hF
          refine wpList_nil ?_
          refine hK18 _ _ ?_
          refine wp_ret ?_
          try simp only [Exit.then, Exit.inBlock]
          have hE_ := hno.1
          have hM_ := hno.2
          refine fin_ret hF (res1 hF rfl rfl) ⟨Asn.all [(1, .blk bd (.cells #[.slice As S.length cs, .slice Ar rt.length cr] 61 (0, 0))), (2, .rd_ SgE As S cs oks), (3, .rd_ (.int .u8) Ar rt cr okr)], by rw [hE_] <;> rfl, by rw [hM_]; exact ⟨_, _, _, _, _, _, rfl⟩, grew_of (hH.sub [(1, .blk bd (.cells #[.slice As S.length cs, .slice Ar rt.length cr] 61 (0, 0))), (2, .rd_ SgE As S cs oks), (3, .rd_ (.int .u8) Ar rt cr okr)] (sub_cons (sub_cons (sub_cons (sub_nil _) 3 rfl) 2 rfl) 1 rfl)) (rdin_cons (fun k h => h.elim) (rdin_cons (fun k h => .inr (.inl ⟨2, _, rfl, h⟩)) (rdin_cons (fun k h => .inr (.inl ⟨3, _, rfl, h⟩)) rdin_nil)))⟩
        · have hc39 := hb39; try simp only [Bool.or_eq_true, Bool.and_eq_true, Bool.or_eq_false_iff, Bool.and_eq_false_iff, Bool.not_eq_true', Bool.not_eq_false', decide_eq_true_eq, decide_eq_false_iff_not, Bool.not_true, Bool.not_false] at hc39
          refine l_atg hF ((wanted_of hF rfl rfl rfl rfl).trans (by rw [hb39]; rfl)) rfl rfl (x_move (hF.tmp 7 rfl)) ?_; clear hF; intro a hF
          refine l_atg hF ((wanted_of hF rfl rfl rfl rfl).trans (by rw [hb39]; rfl)) rfl rfl (x_lss (hF.tmp 40 rfl) rfl) ?_; clear hF; intro a hF
          refine l_atg hF ((wanted_of hF rfl rfl rfl rfl).trans (by rw [hb39]; rfl)) rfl rfl (x_move (hF.tmp 41 rfl)) ?_; clear hF; intro a hF
          refine split_bool hF 42 rfl (fun hb42 => ?_) (fun hb42 => ?_)
          · have hc42 := hb42; try simp only [Bool.or_eq_true, Bool.and_eq_true, Bool.or_eq_false_iff, Bool.and_eq_false_iff, Bool.not_eq_true', Bool.not_eq_false', decide_eq_true_eq, decide_eq_false_iff_not, Bool.not_true, Bool.not_false] at hc42
            refine l_atg hF ((wanted_of hF rfl rfl rfl rfl).trans (by rw [hb42]; rfl)) rfl rfl (x_move (hF.tmp 0 rfl)) ?_; clear hF; intro a hF
            refine l_atg hF ((wanted_of hF rfl rfl rfl rfl).trans (by rw [hb42]; rfl)) rfl rfl (x_nil (hF.tmp 43 rfl)) ?_; clear hF; intro a hF
            refine l_atg hF ((wanted_of hF rfl rfl rfl rfl).trans (by rw [hb42]; rfl)) rfl rfl (x_faddr Try.underlying61 rfl ty59 (by decide) (hF.tmp 44 rfl) rfl) ?_; clear hF; intro a hF
            refine l_atg hF ((wanted_of hF rfl rfl rfl rfl).trans (by rw [hb42]; rfl)) rfl rfl (x_load1 ty59 (hF.tmp 45 rfl) (blk_cell (hH.at 1 rfl) 0 rfl)) ?_; clear hF; intro a hF
            refine l_atg hF ((wanted_of hF rfl rfl rfl rfl).trans (by rw [hb42]; rfl)) rfl rfl (x_len_slice Try.underlying59 (hF.tmp 46 rfl)) ?_; clear hF; intro a hF
            refine l_atg hF ((wanted_of hF rfl rfl rfl rfl).trans (by rw [hb42]; rfl)) rfl rfl (x_geq (hF.tmp 47 rfl) rfl) ?_; clear hF; intro a hF
            refine l_atg hF ((wanted_of hF rfl rfl rfl rfl).trans (by rw [hb39]; rfl)) rfl rfl (x_pickT (hF.tmp 42 rfl) hb42 (hF.tmp 48 rfl)) ?_; clear hF; intro a hF
            refine l_at hF rfl rfl rfl (x_pickF (hF.tmp 39 rfl) hb39 (hF.tmp 49 rfl)) ?_; clear hF; intro a hF
            refine wpList_nil ?_
            refine hK15 _ _ ?_
            refine wp_cond_split (hF.tmp 50 rfl) (fun hc50 => ?_) (fun hc50 => ?_)
            · try simp only [Bool.or_eq_true, Bool.and_eq_true, Bool.or_eq_false_iff, Bool.and_eq_false_iff, Bool.not_eq_true', Bool.not_eq_false', decide_eq_true_eq, decide_eq_false_iff_not, Bool.not_true, Bool.not_false] at hc50
              have hno := appS_many (b := bs) hc15n hc50
              refine wp_seq_k fun khK19 hK19 => ?_
              refine wp_region_lit ?_
              refine l_at hF rfl rfl rfl (x_assign rfl) ?_; clear hF; intro a hF
              refine wpList_nil ?_
              refine hK19 _ _ ?_
              refine wp_ret ?_
              try simp only [Exit.then, Exit.inBlock]
              have hE_ := hno.1
              have hM_ := hno.2
              refine fin_ret hF (res1 hF rfl rfl) ⟨Asn.all [(1, .blk bd (.cells #[.slice As S.length cs, .slice Ar rt.length cr] 61 (0, 0))), (2, .rd_ SgE As S cs oks), (3, .rd_ (.int .u8) Ar rt cr okr)], by rw [hE_] <;> rfl, by rw [hM_]; exact ⟨_, _, _, _, _, _, rfl⟩, grew_of (hH.sub [(1, .blk bd (.cells #[.slice As S.length cs, .slice Ar rt.length cr] 61 (0, 0))), (2, .rd_ SgE As S cs oks), (3, .rd_ (.int .u8) Ar rt cr okr)] (sub_cons (sub_cons (sub_cons (sub_nil _) 3 rfl) 2 rfl) 1 rfl)) (rdin_cons (fun k h => h.elim) (rdin_cons (fun k h => .inr (.inl ⟨2, _, rfl, h⟩)) (rdin_cons (fun k h => .inr (.inl ⟨3, _, rfl, h⟩)) rdin_nil)))⟩
            · try simp only [Bool.or_eq_true, Bool.and_eq_true, Bool.or_eq_false_iff, Bool.and_eq_false_iff, Bool.not_eq_true', Bool.not_eq_false', decide_eq_true_eq, decide_eq_false_iff_not, Bool.not_true, Bool.not_false] at hc50
              refine wp_skip ?_
              refine hK14 _ _ ?_
              refine wp_seq_k fun khK20 hK20 => ?_
              refine wp_region_lit ?_
              refine wpList_plain rfl fun K hK => ?_
              refine w_lit0 (.int .u8) 51 hF hH rfl Try.underlying42 ty5 ?_
              clear hF hH; intro a w b51 hF hH
              refine hK _ _ ?_; clear hK K
              refine l_at hF rfl rfl rfl (x_faddr Try.underlying115 rfl ty42 (by decide) (hF.tmp 8 rfl) rfl) ?_; clear hF; intro a hF
              refine l_at hF rfl rfl rfl (x_load1 ty42 (hF.tmp 52 rfl) (blk_cell (hH.at 8 rfl) 1 rfl)) ?_; clear hF; intro a hF
              refine wpList_plain rfl fun K hK => ?_
              refine w_append 51 907 (xs := ([])) (ys := ([] : List Int)) hF hH rfl Try.underlying42 ty5 rfl rfl rfl rfl ((hH.rd 907 rfl)) (by intro k_ hk_; exact .inr hk_) (hF.tmp 51 rfl) (hF.tmp 53 rfl) (by simp only [List.length_nil]; omega) (by simp only [List.length_nil, maxLen]; omega) (fun _ => False) (fun w' v' h => row_flat h _) (fun k_ hk_ => hk_.elim) ?_
              clear hF hH; intro a w v54 hF hH
              refine hK _ _ ?_; clear hK K
              try rw [List.nil_append] at hF hH
              refine l_at hF rfl rfl rfl (x_move (hF.tmp 2 rfl)) ?_; clear hF; intro a hF
              refine wpList_plain rfl fun K hK => ?_
              refine w_append 51 901 (xs := ([] : List Int)) (ys := bs) hF hH rfl Try.underlying42 ty5 rfl rfl rfl rfl ((hH.rd 901 rfl)) (by intro k_ hk_; exact .inr hk_) (hF.tmp 54 rfl) (hF.tmp 55 rfl) (by (try simp only [List.length_nil]); omega) (by unfold maxLen; (try simp only [List.length_nil]); omega) (fun _ => False) (fun w' v' h => row_flat h _) (fun k_ hk_ => hk_.elim) ?_
              clear hF hH; intro a w v56 hF hH
              refine hK _ _ ?_; clear hK K
              obtain ⟨A56, c56, rfl⟩ := (hH.row 51 rfl).form
              have hb56_ : ∀ k, (Value.slice A56 (([] : List Int) ++ bs).length c56).ownBlock = some k → _ := hH.mine 51 _ rfl
              have hH := hH.freeze 51 rfl (fun k => (Value.slice A56 (([] : List Int) ++ bs).length c56).ownBlock = some k) (fun k => ⟨fun h => .inr h, fun h => h.resolve_left id⟩)
              refine l_at hF rfl rfl rfl (x_faddr Try.underlying115 rfl ty42 (by decide) (hF.tmp 8 rfl) rfl) ?_; clear hF; intro a hF
              refine wpList_plain rfl fun K hK => ?_
              refine w_store 8 hH ty42 rfl (hF.tmp 57 rfl) (hF.tmp 56 rfl) rfl (one1 rfl rfl) (by first | decide | exact Nat.le_of_ble_eq_true rfl) ?_
              clear hH; intro w hH
              refine hK _ _ ?_; clear hK K
              refine wpList_nil ?_
              refine hK20 _ _ ?_
              refine wp_seq_k fun khK21 hK21 => ?_
              refine wp_region_lit ?_
              refine l_at hF rfl rfl rfl (x_move (hF.tmp 0 rfl)) ?_; clear hF; intro a hF
              refine l_at hF rfl rfl rfl (x_loadn ty115 (hF.tmp 8 rfl) rfl (blk_whole (hH.at 8 rfl))) ?_; clear hF; intro a hF
              refine wpList_plain rfl fun K hK => ?_
              refine w_call hF (x_enter Try.func70 (by kernel_rfl) rfl (by simp only [List.map_toArray, List.map_cons, List.map_nil, hF.tmp 58 rfl, hF.tmp 59 rfl] <;> rfl)) (rwith_calls _ ⟨_, _, _, _, _, _, rfl⟩ (hH.sub [(1, .blk bd (.cells #[.slice As S.length cs, .slice Ar rt.length cr] 61 (0, 0))), (2, .rd_ SgE As S cs oks), (3, .rd_ (.int .u8) Ar rt cr okr)] (sub_cons (sub_cons (sub_cons (sub_nil _) 3 rfl) 2 rfl) 1 rfl)).okAll hSl (n, ((([] : List Int) ++ bs), 0)) ((hH.rd 51 rfl)) (fun k hk => hH.inb 51 _ rfl k (.inr hk)) (Hp.sepL hH (L := [(1, .blk bd (.cells #[.slice As S.length cs, .slice Ar rt.length cr] 61 (0, 0))), (2, .rd_ SgE As S cs oks), (3, .rd_ (.int .u8) Ar rt cr okr)]) (sub_cons (sub_cons (sub_cons (sub_nil _) 3 rfl) 2 rfl) 1 rfl) 51 rfl rfl)) rfl rfl ?_
              rintro _ w ⟨X9, rfl, hR9, hG9⟩; refine ⟨_, rfl, ?_⟩; clear hF; intro a hF; obtain ⟨As9, cs9, Ar9, cr9, oks9, okr9, rfl⟩ := hR9; have hms9 := hH.mods.size; have hbn9 : ∀ k, RdL [(1, .blk bd (.cells #[.slice As9 (withR S (n, ((([] : List Int) ++ bs), 0))).length cs9, .slice Ar9 rt.length cr9] 61 (0, 0))), (2, .rd_ SgE As9 (withR S (n, ((([] : List Int) ++ bs), 0))) cs9 oks9), (3, .rd_ (.int .u8) Ar9 rt cr9 okr9)] k → OwnL [(1, .blk bd (.cells #[.slice As S.length cs, .slice Ar rt.length cr] 61 (0, 0))), (2, .rd_ SgE As S cs oks), (3, .rd_ (.int .u8) Ar rt cr okr)] k ∨ RdL [(1, .blk bd (.cells #[.slice As S.length cs, .slice Ar rt.length cr] 61 (0, 0))), (2, .rd_ SgE As S cs oks), (3, .rd_ (.int .u8) Ar rt cr okr)] k ∨ (fun _ => False : Nat → Prop) k ∨ w0.heap.size ≤ k := (fun k hk => (hG9.rd k hk).elim .inl (fun h => h.elim (fun h => .inr (.inl h)) (fun h => h.elim (fun h => (hb56_ k h).elim .inl (fun h => .inr (.inr (.inr h)))) (fun h => .inr (.inr (.inr (Nat.le_trans hms9 h))))))); have hH := Hp.turnL hH (L := [(1, .blk bd (.cells #[.slice As S.length cs, .slice Ar rt.length cr] 61 (0, 0))), (2, .rd_ SgE As S cs oks), (3, .rd_ (.int .u8) Ar rt cr okr)]) (sub_cons (sub_cons (sub_cons (sub_nil _) 3 rfl) 2 rfl) 1 rfl) hG9 (fun k hk => ⟨51, _, rfl, hk⟩) (cover_cons rfl (cover_cons rfl (cover_cons rfl (cover_nil _))))
              refine hK _ _ ?_; clear hK K
              refine wpList_nil ?_
              refine hK21 _ _ ?_
              refine wp_seq_k fun khK22 hK22 => ?_
              refine wp_region_lit ?_
              refine l_at hF rfl rfl rfl (x_assign rfl) ?_; clear hF; intro a hF
              refine wpList_nil ?_
              refine hK22 _ _ ?_
              refine wp_ret ?_
              try simp only [Exit.then, Exit.inBlock]
              have hE_ := (appS_new hc15n hc25 hc30 hc50).1
              have hM_ := (appS_new hc15n hc25 hc30 hc50).2
              refine fin_ret hF (res1 hF rfl rfl) ⟨Asn.all [(1, .blk bd (.cells #[.slice As9 (withR S (n, ((([] : List Int) ++ bs), 0))).length cs9, .slice Ar9 rt.length cr9] 61 (0, 0))), (2, .rd_ SgE As9 (withR S (n, ((([] : List Int) ++ bs), 0))) cs9 oks9), (3, .rd_ (.int .u8) Ar9 rt cr9 okr9)], by rw [hE_] <;> rfl, by rw [hM_]; exact ⟨_, _, _, _, _, _, rfl⟩, grew_of (hH.sub [(1, .blk bd (.cells #[.slice As9 (withR S (n, ((([] : List Int) ++ bs), 0))).length cs9, .slice Ar9 rt.length cr9] 61 (0, 0))), (2, .rd_ SgE As9 (withR S (n, ((([] : List Int) ++ bs), 0))) cs9 oks9), (3, .rd_ (.int .u8) Ar9 rt cr9 okr9)] (sub_cons (sub_cons (sub_cons (sub_nil _) 3 rfl) 2 rfl) 1 rfl)) (rdin_cons (fun k h => h.elim) (rdin_cons (fun k h => hbn9 k ⟨2, _, rfl, h⟩) (rdin_cons (fun k h => hbn9 k ⟨3, _, rfl, h⟩) rdin_nil)))⟩
          · have hc42 := hb42; try simp only [Bool.or_eq_true, Bool.and_eq_true, Bool.or_eq_false_iff, Bool.and_eq_false_iff, Bool.not_eq_true', Bool.not_eq_false', decide_eq_true_eq, decide_eq_false_iff_not, Bool.not_true, Bool.not_false] at hc42
            exact absurd hc42 (by omega)

end Go.Proofs.Ytkocinnoncacgaa.Dsk
