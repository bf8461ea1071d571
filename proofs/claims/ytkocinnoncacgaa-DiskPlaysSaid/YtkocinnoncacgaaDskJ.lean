/- The document's disk, walked. -/
import Derived.Test.YtkocinnoncacgaaDskH
set_option linter.unusedVariables false
set_option linter.unusedSimpArgs false
namespace Go.Proofs.Ytkocinnoncacgaa.Dsk
open Go.RowKit Go.Proofs.Ytkocinnoncacgaa.Sx
set_option maxRecDepth 100000 in
set_option maxHeartbeats 1000000 in
theorem rrem_calls (w0 : World) {X : Asn} {bd : Nat} {S : DM} {rt : List Int} (hX : RefA 61 bd S rt X) (hok : X.ok w0) (hSrt : Srt S) (hSl : S.length ≤ 1000) (n : Int) : Calls Try.prog 35 #[.pointer (some ⟨bd, 0, none⟩), .int .i64 n] w0 fun e w' => ∃ X', e = .returned (.int .i64 (atE S n)) ∧ RefA 61 bd (remS S n) rt X' ∧ Grew (fun _ => False) (fun _ => False) X w0 w' X' := by
  obtain ⟨As, cs, Ar, cr, oks, okr, rfl⟩ := hX
  refine calls_of_wp Try.func35 rfl ?_
  have hF := Fr.enter #[.pointer (some ⟨bd, 0, none⟩), .int .i64 n] 30 (slotsOf [.pointer (some ⟨bd, 0, none⟩), .int .i64 n] 0) (Nat.le_of_ble_eq_true rfl) (fun i v h => by have h2 := (get_slotsOf _ 0 i v h).2; simpa only [List.getElem?_toArray, Nat.sub_zero] using h2)
  rw [Try.ntmps35]
  revert hF; generalize (⟨(#[.pointer (some ⟨bd, 0, none⟩), .int .i64 n] : Array Value) ++ Array.replicate (30 - (#[.pointer (some ⟨bd, 0, none⟩), .int .i64 n] : Array Value).size) undef, []⟩ : Act) = a; intro hF
  have hH := Hp.ofAll hok.holds
  have hleS := (hH.rd 2 rfl).le; have hlert := (hH.rd 3 rfl).le; unfold maxLen at hleS hlert
  refine wp_seq_k fun khK1 hK1 => ?_
  refine wp_region_lit ?_
  refine l_at hF rfl rfl rfl (x_assign rfl) ?_; clear hF; intro a hF
  refine wpList_nil ?_
  refine hK1 _ _ ?_
  refine wp_seq_k fun khK2 hK2 => ?_
  refine wp_region_lit ?_
  refine l_at hF rfl rfl rfl (x_move (hF.tmp 0 rfl)) ?_; clear hF; intro a hF
  refine l_at hF rfl rfl rfl (x_move (hF.tmp 1 rfl)) ?_; clear hF; intro a hF
  refine wpList_plain rfl fun K hK => ?_
  refine w_call hF (x_enter Try.func36 (by kernel_rfl) rfl (by simp only [List.map_toArray, List.map_cons, List.map_nil, hF.tmp 6 rfl, hF.tmp 7 rfl] <;> rfl)) (rfind_calls _ ⟨_, _, _, _, _, _, rfl⟩ (hH.sub [(1, .blk bd (.cells #[.slice As S.length cs, .slice Ar rt.length cr] 61 (0, 0))), (2, .rd_ SgE As S cs oks), (3, .rd_ (.int .u8) Ar rt cr okr)] (sub_cons (sub_cons (sub_cons (sub_nil _) 3 rfl) 2 rfl) 1 rfl)).okAll n) rfl rfl ?_
  rintro _ w ⟨rfl, hm_⟩; refine ⟨_, rfl, ?_⟩; clear hF; intro a hF; have hH := hH.same hm_
  refine hK _ _ ?_; clear hK K
  refine l_at hF rfl rfl rfl (x_assign (hF.tmp 8 rfl)) ?_; clear hF; intro a hF
  refine wpList_nil ?_
  refine hK2 _ _ ?_
  refine wp_seq_k fun khK3 hK3 => ?_
  refine wp_seq_k fun khK4 hK4 => ?_
  refine wp_region_lit ?_
  refine l_at hF rfl rfl rfl (x_move (hF.tmp 5 rfl)) ?_; clear hF; intro a hF
  refine l_at hF rfl rfl rfl (x_lss (hF.tmp 9 rfl) rfl) ?_; clear hF; intro a hF
  refine wpList_nil ?_
  refine hK4 _ _ ?_
  refine wp_cond_split (hF.tmp 10 rfl) (fun hc10 => ?_) (fun hc10 => ?_)
  · try simp only [Bool.or_eq_true, Bool.and_eq_true, Bool.or_eq_false_iff, Bool.and_eq_false_iff, Bool.not_eq_true', Bool.not_eq_false', decide_eq_true_eq, decide_eq_false_iff_not, Bool.not_true, Bool.not_false] at hc10
    have hno := fnd_neg hc10
    refine wp_seq_k fun khK5 hK5 => ?_
    refine wp_region_lit ?_
    refine l_at hF rfl rfl rfl (x_assign rfl) ?_; clear hF; intro a hF
    refine wpList_nil ?_
    refine hK5 _ _ ?_
    refine wp_ret ?_
    try simp only [Exit.then, Exit.inBlock]
    have hE_ := at_of_no hno
    have hM_ := remS_off hno
    refine fin_ret hF (res1 hF rfl rfl) ⟨Asn.all [(1, .blk bd (.cells #[.slice As S.length cs, .slice Ar rt.length cr] 61 (0, 0))), (2, .rd_ SgE As S cs oks), (3, .rd_ (.int .u8) Ar rt cr okr)], by rw [hE_] <;> rfl, by rw [hM_]; exact ⟨_, _, _, _, _, _, rfl⟩, grew_of (hH.sub [(1, .blk bd (.cells #[.slice As S.length cs, .slice Ar rt.length cr] 61 (0, 0))), (2, .rd_ SgE As S cs oks), (3, .rd_ (.int .u8) Ar rt cr okr)] (sub_cons (sub_cons (sub_cons (sub_nil _) 3 rfl) 2 rfl) 1 rfl)) (rdin_cons (fun k h => h.elim) (rdin_cons (fun k h => .inr (.inl ⟨2, _, rfl, h⟩)) (rdin_cons (fun k h => .inr (.inl ⟨3, _, rfl, h⟩)) rdin_nil)))⟩
  · try simp only [Bool.or_eq_true, Bool.and_eq_true, Bool.or_eq_false_iff, Bool.and_eq_false_iff, Bool.not_eq_true', Bool.not_eq_false', decide_eq_true_eq, decide_eq_false_iff_not, Bool.not_true, Bool.not_false] at hc10
    have hat := fnd_at hSrt.keys hc10
    have hat1 := hat.1
    refine wp_skip ?_
    refine hK3 _ _ ?_
    refine wp_seq_k fun khK6 hK6 => ?_
    refine r_start [] (by kernel_rfl) hH fun hH => ?_
    have hS : SL [] _ := SL.of hH (sub_nil _)
    refine r_take 0 hF rfl rfl rfl (by kernel_rfl) (by kernel_rfl) (by kernel_rfl) (fun _ _ _ h => h) rfl hS (fun w hS => x_move (hF.tmp 0 rfl)) rfl ?_; clear hF; intro a hF
    refine r_take 2 hF rfl rfl rfl (by kernel_rfl) (by kernel_rfl) (by kernel_rfl) (fun _ _ _ h => h) rfl hS (fun w hS => x_move (hF.tmp 0 rfl)) rfl ?_; clear hF; intro a hF
    refine r_take 3 hF rfl rfl rfl (by kernel_rfl) (by kernel_rfl) (by kernel_rfl) (fun _ _ _ h => h) rfl hS (fun w hS => x_nil (hF.tmp 13 rfl)) rfl ?_; clear hF; intro a hF
    refine r_take 4 hF rfl rfl rfl (by kernel_rfl) (by kernel_rfl) (by kernel_rfl) (fun _ _ _ h => h) rfl hS (fun w hS => x_faddr Try.underlying61 rfl ty59 (by decide) (hF.tmp 14 rfl) rfl) rfl ?_; clear hF; intro a hF
    refine r_take 6 hF rfl rfl rfl (by kernel_rfl) (by kernel_rfl) (by kernel_rfl) (fun _ _ _ h => h) rfl hS (fun w hS => x_move (hF.tmp 5 rfl)) rfl ?_; clear hF; intro a hF
    refine r_take 9 hF rfl rfl rfl (by kernel_rfl) (by kernel_rfl) (by kernel_rfl) (fun _ _ _ h => h) rfl hS (fun w hS => x_move (hF.tmp 0 rfl)) rfl ?_; clear hF; intro a hF
    refine r_take 10 hF rfl rfl rfl (by kernel_rfl) (by kernel_rfl) (by kernel_rfl) (fun _ _ _ h => h) rfl hS (fun w hS => x_nil (hF.tmp 20 rfl)) rfl ?_; clear hF; intro a hF
    refine r_take 11 hF rfl rfl rfl (by kernel_rfl) (by kernel_rfl) (by kernel_rfl) (fun _ _ _ h => h) rfl hS (fun w hS => x_faddr Try.underlying61 rfl ty59 (by decide) (hF.tmp 21 rfl) rfl) rfl ?_; clear hF; intro a hF
    refine r_take 13 hF rfl rfl rfl (by kernel_rfl) (by kernel_rfl) (by kernel_rfl) (fun _ _ _ h => h) rfl hS (fun w hS => x_move (hF.tmp 5 rfl)) rfl ?_; clear hF; intro a hF
    refine r_take 14 hF rfl rfl rfl (by kernel_rfl) (by kernel_rfl) (by kernel_rfl) (fun _ _ _ h => h) rfl hS (fun w hS => x_add (hF.tmp 24 rfl) rfl (w64 (by omega) (by omega))) rfl ?_; clear hF; intro a hF
    refine r_do3 1 5 12 rfl rfl rfl (by kernel_rfl) rfl rfl rfl rfl rfl rfl ?_ ?_ ?_
    ·
      refine w_lit0 SgE 12 hF hH rfl Try.underlying59 ty115 ?_
      clear hF hH; intro a w b12 hF hH
      clear hS; have hS : SL _ _ := SL.of hH (sub_nil _); refine ⟨hS, ?_⟩
      refine r_do2 5 12 rfl rfl (by kernel_rfl) rfl rfl rfl rfl ?_ ?_
      ·
        refine w_at hF (x_load1 ty59 (hF.tmp 15 rfl) (blk_cell (hH.at 1 rfl) 0 rfl)) rfl rfl ?_
        clear hF; intro a hF
        clear hS; have hS : SL _ _ := SL.of hH (sub_nil _); refine ⟨hS, ?_⟩
        refine r_do2 7 12 rfl rfl (by kernel_rfl) rfl rfl rfl rfl ?_ ?_
        ·
          refine w_at hF (x_slice_h Try.underlying59 ty115 (hF.tmp 16 rfl) (hF.tmp 17 rfl) (by omega) (by omega) ((hH.rd 2 rfl)).1) rfl rfl ?_
          clear hF; intro a hF
          clear hS; have hS : SL _ _ := SL.of hH (sub_nil _); refine ⟨hS, ?_⟩
          refine r_do2 8 12 rfl rfl (by kernel_rfl) rfl rfl rfl rfl ?_ ?_
          ·
            refine w_append 12 2 (xs := ([])) (ys := (S.take ((fnd S n).toNat))) hF hH rfl Try.underlying59 ty115 rfl rfl rfl rfl ((Rd.take ((hH.rd 2 rfl)) ((fnd S n).toNat))) (by intro k_ hk_; exact .inr hk_) (hF.tmp 12 rfl) (hF.tmp 18 rfl) (by simp only [List.length_nil, List.length_take]; omega) (by simp only [List.length_nil, List.length_take, maxLen]; omega) (fun k => (fun _ => False) k ∨ oks k) (fun w' v' h => h) (by rintro k_ (hk_ | hk_); exact .inl hk_; exact .inr hk_) ?_
            clear hF hH; intro a w v19 hF hH
            clear hS; have hS : SL _ _ := SL.of hH (sub_nil _); refine ⟨hS, ?_⟩
            rw [List.nil_append] at hH
            refine r_do 12 rfl (by kernel_rfl) rfl rfl ?_
            refine w_at hF (x_load1 ty59 (hF.tmp 22 rfl) (blk_cell (hH.at 1 rfl) 0 rfl)) rfl rfl ?_
            clear hF; intro a hF
            clear hS; have hS : SL _ _ := SL.of hH (sub_nil _); refine ⟨hS, ?_⟩
            refine r_do 15 rfl (by kernel_rfl) rfl rfl ?_
            refine w_at hF (x_slice_l (E := SgE) Try.underlying59 ty115 (hF.tmp 23 rfl) (hF.tmp 25 rfl) (by omega) (by omega) ((hH.rd 2 rfl)).1) rfl rfl ?_
            clear hF; intro a hF
            clear hS; have hS : SL _ _ := SL.of hH (sub_nil _); refine ⟨hS, ?_⟩
            refine r_do 16 rfl (by kernel_rfl) rfl rfl ?_
            refine w_append 12 2 (xs := (S.take (fnd S n).toNat)) (ys := (S.drop (((fnd S n) + 1).toNat))) hF hH rfl Try.underlying59 ty115 rfl rfl rfl rfl ((Rd.drop ((hH.rd 2 rfl)) (by omega : ((fnd S n) + 1).toNat ≤ S.length))) (by intro k_ hk_; exact .inr hk_) (hF.tmp 19 rfl) (hF.tmp 26 rfl) (by simp only [List.length_drop, List.length_take]; omega) (by simp only [List.length_drop, List.length_take, maxLen]; omega) (fun k => (fun k => (fun _ => False) k ∨ oks k) k ∨ oks k) (fun w' v' h => h) (by rintro k_ (hk_ | hk_); exact .inl hk_; exact .inr hk_) ?_
            clear hF hH; intro a w v27 hF hH
            clear hS; have hS : SL _ _ := SL.of hH (sub_nil _); refine ⟨hS, ?_⟩
            obtain ⟨A27, c27, rfl⟩ := (hH.row 12 rfl).form
            have hb27 : ∀ k, (Value.slice A27 ((S.take (fnd S n).toNat) ++ (S.drop (fnd S n + 1).toNat)).length c27).ownBlock = some k → _ := hH.mine 12 _ rfl
            have hH := hH.freeze 12 rfl (fun k => (fun k => (fun k => (fun _ => False) k ∨ oks k) k ∨ oks k) k ∨ (Value.slice A27 ((S.take (fnd S n).toNat) ++ (S.drop (fnd S n + 1).toNat)).length c27).ownBlock = some k) (fun k => Iff.rfl)
            have hH := hH.subrd 12 rfl 2 (hH.rd 12 rfl) (fun _ h => h)
            refine r_take 17 hF rfl rfl rfl (by kernel_rfl) (by kernel_rfl) (by kernel_rfl) (fun _ _ _ h => h) rfl hS (fun w hS => x_nil (hF.tmp 11 rfl)) rfl ?_; clear hF; intro a hF
            refine r_take 18 hF rfl rfl rfl (by kernel_rfl) (by kernel_rfl) (by kernel_rfl) (fun _ _ _ h => h) rfl hS (fun w hS => x_faddr Try.underlying61 rfl ty59 (by decide) (hF.tmp 28 rfl) rfl) rfl ?_; clear hF; intro a hF
            refine r_do 19 rfl (by kernel_rfl) rfl rfl ?_
            refine w_store 1 hH ty59 rfl (hF.tmp 29 rfl) (hF.tmp 27 rfl) rfl (one1 rfl rfl) (by first | decide | exact Nat.le_of_ble_eq_true rfl) ?_
            clear hH; intro w hH
            clear hS; have hS : SL _ _ := SL.of hH (sub_nil _); refine ⟨hS, ?_⟩
            refine r_end (by kernel_rfl) ?_; clear hS
            refine hK6 _ _ ?_
            refine wp_seq_k fun khK7 hK7 => ?_
            refine wp_region_lit ?_
            refine l_at hF rfl rfl rfl (x_assign rfl) ?_; clear hF; intro a hF
            refine wpList_nil ?_
            refine hK7 _ _ ?_
            refine wp_ret ?_
            try simp only [Exit.then, Exit.inBlock]
            have hE_ := at_of hat.2.2
            have hM_ := (remS_on hat.2.2).resolve_right hc10
            refine fin_ret hF (res1 hF rfl rfl) ⟨Asn.all [(1, .blk bd (.cells #[.slice A27 ((S.take (fnd S n).toNat) ++ (S.drop (fnd S n + 1).toNat)).length c27, .slice Ar rt.length cr] 61 (0, 0))), (2, .rd_ SgE A27 ((S.take (fnd S n).toNat) ++ (S.drop (fnd S n + 1).toNat)) c27 (fun k => (fun k => (fun k => (fun _ => False) k ∨ oks k) k ∨ oks k) k ∨ (Value.slice A27 ((S.take (fnd S n).toNat) ++ (S.drop (fnd S n + 1).toNat)).length c27).ownBlock = some k)), (3, .rd_ (.int .u8) Ar rt cr okr)], by rw [hE_] <;> rfl, by rw [hM_]; exact ⟨_, _, _, _, _, _, rfl⟩, grew_of (hH.sub [(1, .blk bd (.cells #[.slice A27 ((S.take (fnd S n).toNat) ++ (S.drop (fnd S n + 1).toNat)).length c27, .slice Ar rt.length cr] 61 (0, 0))), (2, .rd_ SgE A27 ((S.take (fnd S n).toNat) ++ (S.drop (fnd S n + 1).toNat)) c27 (fun k => (fun k => (fun k => (fun _ => False) k ∨ oks k) k ∨ oks k) k ∨ (Value.slice A27 ((S.take (fnd S n).toNat) ++ (S.drop (fnd S n + 1).toNat)).length c27).ownBlock = some k)), (3, .rd_ (.int .u8) Ar rt cr okr)] (sub_cons (sub_cons (sub_cons (sub_nil _) 3 rfl) 2 rfl) 1 rfl)) (rdin_cons (fun k h => h.elim) (rdin_cons (fun k h => h.elim (fun h => h.elim (fun h => h.elim (fun h => h.elim) (fun h => .inr (.inl ⟨2, _, rfl, h⟩))) (fun h => .inr (.inl ⟨2, _, rfl, h⟩))) (fun h => (hb27 k h).elim .inl (fun h => .inr (.inr (.inr h))))) (rdin_cons (fun k h => .inr (.inl ⟨3, _, rfl, h⟩)) rdin_nil)))⟩
          ·
            refine w_at hF (x_load1 ty59 (hF.tmp 22 rfl) (blk_cell (hH.at 1 rfl) 0 rfl)) rfl rfl ?_
            clear hF; intro a hF
            clear hS; have hS : SL _ _ := SL.of hH (sub_nil _); refine ⟨hS, ?_⟩
            refine r_do2 8 15 rfl rfl (by kernel_rfl) rfl rfl rfl rfl ?_ ?_
            ·
              refine w_append 12 2 (xs := ([])) (ys := (S.take ((fnd S n).toNat))) hF hH rfl Try.underlying59 ty115 rfl rfl rfl rfl ((Rd.take ((hH.rd 2 rfl)) ((fnd S n).toNat))) (by intro k_ hk_; exact .inr hk_) (hF.tmp 12 rfl) (hF.tmp 18 rfl) (by simp only [List.length_nil, List.length_take]; omega) (by simp only [List.length_nil, List.length_take, maxLen]; omega) (fun k => (fun _ => False) k ∨ oks k) (fun w' v' h => h) (by rintro k_ (hk_ | hk_); exact .inl hk_; exact .inr hk_) ?_
              clear hF hH; intro a w v19 hF hH
              clear hS; have hS : SL _ _ := SL.of hH (sub_nil _); refine ⟨hS, ?_⟩
              rw [List.nil_append] at hH
              refine r_do 15 rfl (by kernel_rfl) rfl rfl ?_
              refine w_at hF (x_slice_l (E := SgE) Try.underlying59 ty115 (hF.tmp 23 rfl) (hF.tmp 25 rfl) (by omega) (by omega) ((hH.rd 2 rfl)).1) rfl rfl ?_
              clear hF; intro a hF
              clear hS; have hS : SL _ _ := SL.of hH (sub_nil _); refine ⟨hS, ?_⟩
              refine r_do 16 rfl (by kernel_rfl) rfl rfl ?_
              refine w_append 12 2 (xs := (S.take (fnd S n).toNat)) (ys := (S.drop (((fnd S n) + 1).toNat))) hF hH rfl Try.underlying59 ty115 rfl rfl rfl rfl ((Rd.drop ((hH.rd 2 rfl)) (by omega : ((fnd S n) + 1).toNat ≤ S.length))) (by intro k_ hk_; exact .inr hk_) (hF.tmp 19 rfl) (hF.tmp 26 rfl) (by simp only [List.length_drop, List.length_take]; omega) (by simp only [List.length_drop, List.length_take, maxLen]; omega) (fun k => (fun k => (fun _ => False) k ∨ oks k) k ∨ oks k) (fun w' v' h => h) (by rintro k_ (hk_ | hk_); exact .inl hk_; exact .inr hk_) ?_
              clear hF hH; intro a w v27 hF hH
              clear hS; have hS : SL _ _ := SL.of hH (sub_nil _); refine ⟨hS, ?_⟩
              obtain ⟨A27, c27, rfl⟩ := (hH.row 12 rfl).form
              have hb27 : ∀ k, (Value.slice A27 ((S.take (fnd S n).toNat) ++ (S.drop (fnd S n + 1).toNat)).length c27).ownBlock = some k → _ := hH.mine 12 _ rfl
              have hH := hH.freeze 12 rfl (fun k => (fun k => (fun k => (fun _ => False) k ∨ oks k) k ∨ oks k) k ∨ (Value.slice A27 ((S.take (fnd S n).toNat) ++ (S.drop (fnd S n + 1).toNat)).length c27).ownBlock = some k) (fun k => Iff.rfl)
              have hH := hH.subrd 12 rfl 2 (hH.rd 12 rfl) (fun _ h => h)
              refine r_take 17 hF rfl rfl rfl (by kernel_rfl) (by kernel_rfl) (by kernel_rfl) (fun _ _ _ h => h) rfl hS (fun w hS => x_nil (hF.tmp 11 rfl)) rfl ?_; clear hF; intro a hF
              refine r_take 18 hF rfl rfl rfl (by kernel_rfl) (by kernel_rfl) (by kernel_rfl) (fun _ _ _ h => h) rfl hS (fun w hS => x_faddr Try.underlying61 rfl ty59 (by decide) (hF.tmp 28 rfl) rfl) rfl ?_; clear hF; intro a hF
              refine r_do 19 rfl (by kernel_rfl) rfl rfl ?_
              refine w_store 1 hH ty59 rfl (hF.tmp 29 rfl) (hF.tmp 27 rfl) rfl (one1 rfl rfl) (by first | decide | exact Nat.le_of_ble_eq_true rfl) ?_
              clear hH; intro w hH
              clear hS; have hS : SL _ _ := SL.of hH (sub_nil _); refine ⟨hS, ?_⟩
              refine r_end (by kernel_rfl) ?_; clear hS
              refine hK6 _ _ ?_
              refine wp_seq_k fun khK8 hK8 => ?_
              refine wp_region_lit ?_
              refine l_at hF rfl rfl rfl (x_assign rfl) ?_; clear hF; intro a hF
              refine wpList_nil ?_
              refine hK8 _ _ ?_
              refine wp_ret ?_
              try simp only [Exit.then, Exit.inBlock]
              have hE_ := at_of hat.2.2
              have hM_ := (remS_on hat.2.2).resolve_right hc10
              refine fin_ret hF (res1 hF rfl rfl) ⟨Asn.all [(1, .blk bd (.cells #[.slice A27 ((S.take (fnd S n).toNat) ++ (S.drop (fnd S n + 1).toNat)).length c27, .slice Ar rt.length cr] 61 (0, 0))), (2, .rd_ SgE A27 ((S.take (fnd S n).toNat) ++ (S.drop (fnd S n + 1).toNat)) c27 (fun k => (fun k => (fun k => (fun _ => False) k ∨ oks k) k ∨ oks k) k ∨ (Value.slice A27 ((S.take (fnd S n).toNat) ++ (S.drop (fnd S n + 1).toNat)).length c27).ownBlock = some k)), (3, .rd_ (.int .u8) Ar rt cr okr)], by rw [hE_] <;> rfl, by rw [hM_]; exact ⟨_, _, _, _, _, _, rfl⟩, grew_of (hH.sub [(1, .blk bd (.cells #[.slice A27 ((S.take (fnd S n).toNat) ++ (S.drop (fnd S n + 1).toNat)).length c27, .slice Ar rt.length cr] 61 (0, 0))), (2, .rd_ SgE A27 ((S.take (fnd S n).toNat) ++ (S.drop (fnd S n + 1).toNat)) c27 (fun k => (fun k => (fun k => (fun _ => False) k ∨ oks k) k ∨ oks k) k ∨ (Value.slice A27 ((S.take (fnd S n).toNat) ++ (S.drop (fnd S n + 1).toNat)).length c27).ownBlock = some k)), (3, .rd_ (.int .u8) Ar rt cr okr)] (sub_cons (sub_cons (sub_cons (sub_nil _) 3 rfl) 2 rfl) 1 rfl)) (rdin_cons (fun k h => h.elim) (rdin_cons (fun k h => h.elim (fun h => h.elim (fun h => h.elim (fun h => h.elim) (fun h => .inr (.inl ⟨2, _, rfl, h⟩))) (fun h => .inr (.inl ⟨2, _, rfl, h⟩))) (fun h => (hb27 k h).elim .inl (fun h => .inr (.inr (.inr h))))) (rdin_cons (fun k h => .inr (.inl ⟨3, _, rfl, h⟩)) rdin_nil)))⟩
            ·
              refine w_at hF (x_slice_l (E := SgE) Try.underlying59 ty115 (hF.tmp 23 rfl) (hF.tmp 25 rfl) (by omega) (by omega) ((hH.rd 2 rfl)).1) rfl rfl ?_
              clear hF; intro a hF
              clear hS; have hS : SL _ _ := SL.of hH (sub_nil _); refine ⟨hS, ?_⟩
              refine r_do 8 rfl (by kernel_rfl) rfl rfl ?_
              refine w_append 12 2 (xs := ([])) (ys := (S.take ((fnd S n).toNat))) hF hH rfl Try.underlying59 ty115 rfl rfl rfl rfl ((Rd.take ((hH.rd 2 rfl)) ((fnd S n).toNat))) (by intro k_ hk_; exact .inr hk_) (hF.tmp 12 rfl) (hF.tmp 18 rfl) (by simp only [List.length_nil, List.length_take]; omega) (by simp only [List.length_nil, List.length_take, maxLen]; omega) (fun k => (fun _ => False) k ∨ oks k) (fun w' v' h => h) (by rintro k_ (hk_ | hk_); exact .inl hk_; exact .inr hk_) ?_
              clear hF hH; intro a w v19 hF hH
              clear hS; have hS : SL _ _ := SL.of hH (sub_nil _); refine ⟨hS, ?_⟩
              rw [List.nil_append] at hH
              refine r_do 16 rfl (by kernel_rfl) rfl rfl ?_
              refine w_append 12 2 (xs := (S.take (fnd S n).toNat)) (ys := (S.drop (((fnd S n) + 1).toNat))) hF hH rfl Try.underlying59 ty115 rfl rfl rfl rfl ((Rd.drop ((hH.rd 2 rfl)) (by omega : ((fnd S n) + 1).toNat ≤ S.length))) (by intro k_ hk_; exact .inr hk_) (hF.tmp 19 rfl) (hF.tmp 26 rfl) (by simp only [List.length_drop, List.length_take]; omega) (by simp only [List.length_drop, List.length_take, maxLen]; omega) (fun k => (fun k => (fun _ => False) k ∨ oks k) k ∨ oks k) (fun w' v' h => h) (by rintro k_ (hk_ | hk_); exact .inl hk_; exact .inr hk_) ?_
              clear hF hH; intro a w v27 hF hH
              clear hS; have hS : SL _ _ := SL.of hH (sub_nil _); refine ⟨hS, ?_⟩
              obtain ⟨A27, c27, rfl⟩ := (hH.row 12 rfl).form
              have hb27 : ∀ k, (Value.slice A27 ((S.take (fnd S n).toNat) ++ (S.drop (fnd S n + 1).toNat)).length c27).ownBlock = some k → _ := hH.mine 12 _ rfl
              have hH := hH.freeze 12 rfl (fun k => (fun k => (fun k => (fun _ => False) k ∨ oks k) k ∨ oks k) k ∨ (Value.slice A27 ((S.take (fnd S n).toNat) ++ (S.drop (fnd S n + 1).toNat)).length c27).ownBlock = some k) (fun k => Iff.rfl)
              have hH := hH.subrd 12 rfl 2 (hH.rd 12 rfl) (fun _ h => h)
              refine r_take 17 hF rfl rfl rfl (by kernel_rfl) (by kernel_rfl) (by kernel_rfl) (fun _ _ _ h => h) rfl hS (fun w hS => x_nil (hF.tmp 11 rfl)) rfl ?_; clear hF; intro a hF
              refine r_take 18 hF rfl rfl rfl (by kernel_rfl) (by kernel_rfl) (by kernel_rfl) (fun _ _ _ h => h) rfl hS (fun w hS => x_faddr Try.underlying61 rfl ty59 (by decide) (hF.tmp 28 rfl) rfl) rfl ?_; clear hF; intro a hF
              refine r_do 19 rfl (by kernel_rfl) rfl rfl ?_
              refine w_store 1 hH ty59 rfl (hF.tmp 29 rfl) (hF.tmp 27 rfl) rfl (one1 rfl rfl) (by first | decide | exact Nat.le_of_ble_eq_true rfl) ?_
              clear hH; intro w hH
              clear hS; have hS : SL _ _ := SL.of hH (sub_nil _); refine ⟨hS, ?_⟩
              refine r_end (by kernel_rfl) ?_; clear hS
              refine hK6 _ _ ?_
              refine wp_seq_k fun khK9 hK9 => ?_
              refine wp_region_lit ?_
              refine l_at hF rfl rfl rfl (x_assign rfl) ?_; clear hF; intro a hF
              refine wpList_nil ?_
              refine hK9 _ _ ?_
              refine wp_ret ?_
              try simp only [Exit.then, Exit.inBlock]
              have hE_ := at_of hat.2.2
              have hM_ := (remS_on hat.2.2).resolve_right hc10
              refine fin_ret hF (res1 hF rfl rfl) ⟨Asn.all [(1, .blk bd (.cells #[.slice A27 ((S.take (fnd S n).toNat) ++ (S.drop (fnd S n + 1).toNat)).length c27, .slice Ar rt.length cr] 61 (0, 0))), (2, .rd_ SgE A27 ((S.take (fnd S n).toNat) ++ (S.drop (fnd S n + 1).toNat)) c27 (fun k => (fun k => (fun k => (fun _ => False) k ∨ oks k) k ∨ oks k) k ∨ (Value.slice A27 ((S.take (fnd S n).toNat) ++ (S.drop (fnd S n + 1).toNat)).length c27).ownBlock = some k)), (3, .rd_ (.int .u8) Ar rt cr okr)], by rw [hE_] <;> rfl, by rw [hM_]; exact ⟨_, _, _, _, _, _, rfl⟩, grew_of (hH.sub [(1, .blk bd (.cells #[.slice A27 ((S.take (fnd S n).toNat) ++ (S.drop (fnd S n + 1).toNat)).length c27, .slice Ar rt.length cr] 61 (0, 0))), (2, .rd_ SgE A27 ((S.take (fnd S n).toNat) ++ (S.drop (fnd S n + 1).toNat)) c27 (fun k => (fun k => (fun k => (fun _ => False) k ∨ oks k) k ∨ oks k) k ∨ (Value.slice A27 ((S.take (fnd S n).toNat) ++ (S.drop (fnd S n + 1).toNat)).length c27).ownBlock = some k)), (3, .rd_ (.int .u8) Ar rt cr okr)] (sub_cons (sub_cons (sub_cons (sub_nil _) 3 rfl) 2 rfl) 1 rfl)) (rdin_cons (fun k h => h.elim) (rdin_cons (fun k h => h.elim (fun h => h.elim (fun h => h.elim (fun h => h.elim) (fun h => .inr (.inl ⟨2, _, rfl, h⟩))) (fun h => .inr (.inl ⟨2, _, rfl, h⟩))) (fun h => (hb27 k h).elim .inl (fun h => .inr (.inr (.inr h))))) (rdin_cons (fun k h => .inr (.inl ⟨3, _, rfl, h⟩)) rdin_nil)))⟩
        ·
          refine w_at hF (x_load1 ty59 (hF.tmp 22 rfl) (blk_cell (hH.at 1 rfl) 0 rfl)) rfl rfl ?_
          clear hF; intro a hF
          clear hS; have hS : SL _ _ := SL.of hH (sub_nil _); refine ⟨hS, ?_⟩
          refine r_do2 7 15 rfl rfl (by kernel_rfl) rfl rfl rfl rfl ?_ ?_
          ·
            refine w_at hF (x_slice_h Try.underlying59 ty115 (hF.tmp 16 rfl) (hF.tmp 17 rfl) (by omega) (by omega) ((hH.rd 2 rfl)).1) rfl rfl ?_
            clear hF; intro a hF
            clear hS; have hS : SL _ _ := SL.of hH (sub_nil _); refine ⟨hS, ?_⟩
            refine r_do2 8 15 rfl rfl (by kernel_rfl) rfl rfl rfl rfl ?_ ?_
            ·
              refine w_append 12 2 (xs := ([])) (ys := (S.take ((fnd S n).toNat))) hF hH rfl Try.underlying59 ty115 rfl rfl rfl rfl ((Rd.take ((hH.rd 2 rfl)) ((fnd S n).toNat))) (by intro k_ hk_; exact .inr hk_) (hF.tmp 12 rfl) (hF.tmp 18 rfl) (by simp only [List.length_nil, List.length_take]; omega) (by simp only [List.length_nil, List.length_take, maxLen]; omega) (fun k => (fun _ => False) k ∨ oks k) (fun w' v' h => h) (by rintro k_ (hk_ | hk_); exact .inl hk_; exact .inr hk_) ?_
              clear hF hH; intro a w v19 hF hH
              clear hS; have hS : SL _ _ := SL.of hH (sub_nil _); refine ⟨hS, ?_⟩
              rw [List.nil_append] at hH
              refine r_do 15 rfl (by kernel_rfl) rfl rfl ?_
              refine w_at hF (x_slice_l (E := SgE) Try.underlying59 ty115 (hF.tmp 23 rfl) (hF.tmp 25 rfl) (by omega) (by omega) ((hH.rd 2 rfl)).1) rfl rfl ?_
              clear hF; intro a hF
              clear hS; have hS : SL _ _ := SL.of hH (sub_nil _); refine ⟨hS, ?_⟩
              refine r_do 16 rfl (by kernel_rfl) rfl rfl ?_
              refine w_append 12 2 (xs := (S.take (fnd S n).toNat)) (ys := (S.drop (((fnd S n) + 1).toNat))) hF hH rfl Try.underlying59 ty115 rfl rfl rfl rfl ((Rd.drop ((hH.rd 2 rfl)) (by omega : ((fnd S n) + 1).toNat ≤ S.length))) (by intro k_ hk_; exact .inr hk_) (hF.tmp 19 rfl) (hF.tmp 26 rfl) (by simp only [List.length_drop, List.length_take]; omega) (by simp only [List.length_drop, List.length_take, maxLen]; omega) (fun k => (fun k => (fun _ => False) k ∨ oks k) k ∨ oks k) (fun w' v' h => h) (by rintro k_ (hk_ | hk_); exact .inl hk_; exact .inr hk_) ?_
              clear hF hH; intro a w v27 hF hH
              clear hS; have hS : SL _ _ := SL.of hH (sub_nil _); refine ⟨hS, ?_⟩
              obtain ⟨A27, c27, rfl⟩ := (hH.row 12 rfl).form
              have hb27 : ∀ k, (Value.slice A27 ((S.take (fnd S n).toNat) ++ (S.drop (fnd S n + 1).toNat)).length c27).ownBlock = some k → _ := hH.mine 12 _ rfl
              have hH := hH.freeze 12 rfl (fun k => (fun k => (fun k => (fun _ => False) k ∨ oks k) k ∨ oks k) k ∨ (Value.slice A27 ((S.take (fnd S n).toNat) ++ (S.drop (fnd S n + 1).toNat)).length c27).ownBlock = some k) (fun k => Iff.rfl)
              have hH := hH.subrd 12 rfl 2 (hH.rd 12 rfl) (fun _ h => h)
              refine r_take 17 hF rfl rfl rfl (by kernel_rfl) (by kernel_rfl) (by kernel_rfl) (fun _ _ _ h => h) rfl hS (fun w hS => x_nil (hF.tmp 11 rfl)) rfl ?_; clear hF; intro a hF
              refine r_take 18 hF rfl rfl rfl (by kernel_rfl) (by kernel_rfl) (by kernel_rfl) (fun _ _ _ h => h) rfl hS (fun w hS => x_faddr Try.underlying61 rfl ty59 (by decide) (hF.tmp 28 rfl) rfl) rfl ?_; clear hF; intro a hF
              refine r_do 19 rfl (by kernel_rfl) rfl rfl ?_
              refine w_store 1 hH ty59 rfl (hF.tmp 29 rfl) (hF.tmp 27 rfl) rfl (one1 rfl rfl) (by first | decide | exact Nat.le_of_ble_eq_true rfl) ?_
              clear hH; intro w hH
              clear hS; have hS : SL _ _ := SL.of hH (sub_nil _); refine ⟨hS, ?_⟩
              refine r_end (by kernel_rfl) ?_; clear hS
              refine hK6 _ _ ?_
              refine wp_seq_k fun khK10 hK10 => ?_
              refine wp_region_lit ?_
              refine l_at hF rfl rfl rfl (x_assign rfl) ?_; clear hF; intro a hF
              refine wpList_nil ?_
              refine hK10 _ _ ?_
              refine wp_ret ?_
              try simp only [Exit.then, Exit.inBlock]
              have hE_ := at_of hat.2.2
              have hM_ := (remS_on hat.2.2).resolve_right hc10
              refine fin_ret hF (res1 hF rfl rfl) ⟨Asn.all [(1, .blk bd (.cells #[.slice A27 ((S.take (fnd S n).toNat) ++ (S.drop (fnd S n + 1).toNat)).length c27, .slice Ar rt.length cr] 61 (0, 0))), (2, .rd_ SgE A27 ((S.take (fnd S n).toNat) ++ (S.drop (fnd S n + 1).toNat)) c27 (fun k => (fun k => (fun k => (fun _ => False) k ∨ oks k) k ∨ oks k) k ∨ (Value.slice A27 ((S.take (fnd S n).toNat) ++ (S.drop (fnd S n + 1).toNat)).length c27).ownBlock = some k)), (3, .rd_ (.int .u8) Ar rt cr okr)], by rw [hE_] <;> rfl, by rw [hM_]; exact ⟨_, _, _, _, _, _, rfl⟩, grew_of (hH.sub [(1, .blk bd (.cells #[.slice A27 ((S.take (fnd S n).toNat) ++ (S.drop (fnd S n + 1).toNat)).length c27, .slice Ar rt.length cr] 61 (0, 0))), (2, .rd_ SgE A27 ((S.take (fnd S n).toNat) ++ (S.drop (fnd S n + 1).toNat)) c27 (fun k => (fun k => (fun k => (fun _ => False) k ∨ oks k) k ∨ oks k) k ∨ (Value.slice A27 ((S.take (fnd S n).toNat) ++ (S.drop (fnd S n + 1).toNat)).length c27).ownBlock = some k)), (3, .rd_ (.int .u8) Ar rt cr okr)] (sub_cons (sub_cons (sub_cons (sub_nil _) 3 rfl) 2 rfl) 1 rfl)) (rdin_cons (fun k h => h.elim) (rdin_cons (fun k h => h.elim (fun h => h.elim (fun h => h.elim (fun h => h.elim) (fun h => .inr (.inl ⟨2, _, rfl, h⟩))) (fun h => .inr (.inl ⟨2, _, rfl, h⟩))) (fun h => (hb27 k h).elim .inl (fun h => .inr (.inr (.inr h))))) (rdin_cons (fun k h => .inr (.inl ⟨3, _, rfl, h⟩)) rdin_nil)))⟩
            ·
              refine w_at hF (x_slice_l (E := SgE) Try.underlying59 ty115 (hF.tmp 23 rfl) (hF.tmp 25 rfl) (by omega) (by omega) ((hH.rd 2 rfl)).1) rfl rfl ?_
              clear hF; intro a hF
              clear hS; have hS : SL _ _ := SL.of hH (sub_nil _); refine ⟨hS, ?_⟩
              refine r_do 8 rfl (by kernel_rfl) rfl rfl ?_
              refine w_append 12 2 (xs := ([])) (ys := (S.take ((fnd S n).toNat))) hF hH rfl Try.underlying59 ty115 rfl rfl rfl rfl ((Rd.take ((hH.rd 2 rfl)) ((fnd S n).toNat))) (by intro k_ hk_; exact .inr hk_) (hF.tmp 12 rfl) (hF.tmp 18 rfl) (by simp only [List.length_nil, List.length_take]; omega) (by simp only [List.length_nil, List.length_take, maxLen]; omega) (fun k => (fun _ => False) k ∨ oks k) (fun w' v' h => h) (by rintro k_ (hk_ | hk_); exact .inl hk_; exact .inr hk_) ?_
              clear hF hH; intro a w v19 hF hH
              clear hS; have hS : SL _ _ := SL.of hH (sub_nil _); refine ⟨hS, ?_⟩
              rw [List.nil_append] at hH
              refine r_do 16 rfl (by kernel_rfl) rfl rfl ?_
              refine w_append 12 2 (xs := (S.take (fnd S n).toNat)) (ys := (S.drop (((fnd S n) + 1).toNat))) hF hH rfl Try.underlying59 ty115 rfl rfl rfl rfl ((Rd.drop ((hH.rd 2 rfl)) (by omega : ((fnd S n) + 1).toNat ≤ S.length))) (by intro k_ hk_; exact .inr hk_) (hF.tmp 19 rfl) (hF.tmp 26 rfl) (by simp only [List.length_drop, List.length_take]; omega) (by simp only [List.length_drop, List.length_take, maxLen]; omega) (fun k => (fun k => (fun _ => False) k ∨ oks k) k ∨ oks k) (fun w' v' h => h) (by rintro k_ (hk_ | hk_); exact .inl hk_; exact .inr hk_) ?_
              clear hF hH; intro a w v27 hF hH
              clear hS; have hS : SL _ _ := SL.of hH (sub_nil _); refine ⟨hS, ?_⟩
              obtain ⟨A27, c27, rfl⟩ := (hH.row 12 rfl).form
              have hb27 : ∀ k, (Value.slice A27 ((S.take (fnd S n).toNat) ++ (S.drop (fnd S n + 1).toNat)).length c27).ownBlock = some k → _ := hH.mine 12 _ rfl
              have hH := hH.freeze 12 rfl (fun k => (fun k => (fun k => (fun _ => False) k ∨ oks k) k ∨ oks k) k ∨ (Value.slice A27 ((S.take (fnd S n).toNat) ++ (S.drop (fnd S n + 1).toNat)).length c27).ownBlock = some k) (fun k => Iff.rfl)
              have hH := hH.subrd 12 rfl 2 (hH.rd 12 rfl) (fun _ h => h)
              refine r_take 17 hF rfl rfl rfl (by kernel_rfl) (by kernel_rfl) (by kernel_rfl) (fun _ _ _ h => h) rfl hS (fun w hS => x_nil (hF.tmp 11 rfl)) rfl ?_; clear hF; intro a hF
              refine r_take 18 hF rfl rfl rfl (by kernel_rfl) (by kernel_rfl) (by kernel_rfl) (fun _ _ _ h => h) rfl hS (fun w hS => x_faddr Try.underlying61 rfl ty59 (by decide) (hF.tmp 28 rfl) rfl) rfl ?_; clear hF; intro a hF
              refine r_do 19 rfl (by kernel_rfl) rfl rfl ?_
              refine w_store 1 hH ty59 rfl (hF.tmp 29 rfl) (hF.tmp 27 rfl) rfl (one1 rfl rfl) (by first | decide | exact Nat.le_of_ble_eq_true rfl) ?_
              clear hH; intro w hH
              clear hS; have hS : SL _ _ := SL.of hH (sub_nil _); refine ⟨hS, ?_⟩
              refine r_end (by kernel_rfl) ?_; clear hS
              refine hK6 _ _ ?_
              refine wp_seq_k fun khK11 hK11 => ?_
              refine wp_region_lit ?_
              refine l_at hF rfl rfl rfl (x_assign rfl) ?_; clear hF; intro a hF
              refine wpList_nil ?_
              refine hK11 _ _ ?_
              refine wp_ret ?_
              try simp only [Exit.then, Exit.inBlock]
              have hE_ := at_of hat.2.2
              have hM_ := (remS_on hat.2.2).resolve_right hc10
              refine fin_ret hF (res1 hF rfl rfl) ⟨Asn.all [(1, .blk bd (.cells #[.slice A27 ((S.take (fnd S n).toNat) ++ (S.drop (fnd S n + 1).toNat)).length c27, .slice Ar rt.length cr] 61 (0, 0))), (2, .rd_ SgE A27 ((S.take (fnd S n).toNat) ++ (S.drop (fnd S n + 1).toNat)) c27 (fun k => (fun k => (fun k => (fun _ => False) k ∨ oks k) k ∨ oks k) k ∨ (Value.slice A27 ((S.take (fnd S n).toNat) ++ (S.drop (fnd S n + 1).toNat)).length c27).ownBlock = some k)), (3, .rd_ (.int .u8) Ar rt cr okr)], by rw [hE_] <;> rfl, by rw [hM_]; exact ⟨_, _, _, _, _, _, rfl⟩, grew_of (hH.sub [(1, .blk bd (.cells #[.slice A27 ((S.take (fnd S n).toNat) ++ (S.drop (fnd S n + 1).toNat)).length c27, .slice Ar rt.length cr] 61 (0, 0))), (2, .rd_ SgE A27 ((S.take (fnd S n).toNat) ++ (S.drop (fnd S n + 1).toNat)) c27 (fun k => (fun k => (fun k => (fun _ => False) k ∨ oks k) k ∨ oks k) k ∨ (Value.slice A27 ((S.take (fnd S n).toNat) ++ (S.drop (fnd S n + 1).toNat)).length c27).ownBlock = some k)), (3, .rd_ (.int .u8) Ar rt cr okr)] (sub_cons (sub_cons (sub_cons (sub_nil _) 3 rfl) 2 rfl) 1 rfl)) (rdin_cons (fun k h => h.elim) (rdin_cons (fun k h => h.elim (fun h => h.elim (fun h => h.elim (fun h => h.elim) (fun h => .inr (.inl ⟨2, _, rfl, h⟩))) (fun h => .inr (.inl ⟨2, _, rfl, h⟩))) (fun h => (hb27 k h).elim .inl (fun h => .inr (.inr (.inr h))))) (rdin_cons (fun k h => .inr (.inl ⟨3, _, rfl, h⟩)) rdin_nil)))⟩
          ·
            refine w_at hF (x_slice_l (E := SgE) Try.underlying59 ty115 (hF.tmp 23 rfl) (hF.tmp 25 rfl) (by omega) (by omega) ((hH.rd 2 rfl)).1) rfl rfl ?_
            clear hF; intro a hF
            clear hS; have hS : SL _ _ := SL.of hH (sub_nil _); refine ⟨hS, ?_⟩
            refine r_do 7 rfl (by kernel_rfl) rfl rfl ?_
            refine w_at hF (x_slice_h Try.underlying59 ty115 (hF.tmp 16 rfl) (hF.tmp 17 rfl) (by omega) (by omega) ((hH.rd 2 rfl)).1) rfl rfl ?_
            clear hF; intro a hF
            clear hS; have hS : SL _ _ := SL.of hH (sub_nil _); refine ⟨hS, ?_⟩
            refine r_do 8 rfl (by kernel_rfl) rfl rfl ?_
            refine w_append 12 2 (xs := ([])) (ys := (S.take ((fnd S n).toNat))) hF hH rfl Try.underlying59 ty115 rfl rfl rfl rfl ((Rd.take ((hH.rd 2 rfl)) ((fnd S n).toNat))) (by intro k_ hk_; exact .inr hk_) (hF.tmp 12 rfl) (hF.tmp 18 rfl) (by simp only [List.length_nil, List.length_take]; omega) (by simp only [List.length_nil, List.length_take, maxLen]; omega) (fun k => (fun _ => False) k ∨ oks k) (fun w' v' h => h) (by rintro k_ (hk_ | hk_); exact .inl hk_; exact .inr hk_) ?_
            clear hF hH; intro a w v19 hF hH
            clear hS; have hS : SL _ _ := SL.of hH (sub_nil _); refine ⟨hS, ?_⟩
            rw [List.nil_append] at hH
            refine r_do 16 rfl (by kernel_rfl) rfl rfl ?_
            refine w_append 12 2 (xs := (S.take (fnd S n).toNat)) (ys := (S.drop (((fnd S n) + 1).toNat))) hF hH rfl Try.underlying59 ty115 rfl rfl rfl rfl ((Rd.drop ((hH.rd 2 rfl)) (by omega : ((fnd S n) + 1).toNat ≤ S.length))) (by intro k_ hk_; exact .inr hk_) (hF.tmp 19 rfl) (hF.tmp 26 rfl) (by simp only [List.length_drop, List.length_take]; omega) (by simp only [List.length_drop, List.length_take, maxLen]; omega) (fun k => (fun k => (fun _ => False) k ∨ oks k) k ∨ oks k) (fun w' v' h => h) (by rintro k_ (hk_ | hk_); exact .inl hk_; exact .inr hk_) ?_
            clear hF hH; intro a w v27 hF hH
            clear hS; have hS : SL _ _ := SL.of hH (sub_nil _); refine ⟨hS, ?_⟩
            obtain ⟨A27, c27, rfl⟩ := (hH.row 12 rfl).form
            have hb27 : ∀ k, (Value.slice A27 ((S.take (fnd S n).toNat) ++ (S.drop (fnd S n + 1).toNat)).length c27).ownBlock = some k → _ := hH.mine 12 _ rfl
            have hH := hH.freeze 12 rfl (fun k => (fun k => (fun k => (fun _ => False) k ∨ oks k) k ∨ oks k) k ∨ (Value.slice A27 ((S.take (fnd S n).toNat) ++ (S.drop (fnd S n + 1).toNat)).length c27).ownBlock = some k) (fun k => Iff.rfl)
            have hH := hH.subrd 12 rfl 2 (hH.rd 12 rfl) (fun _ h => h)
            refine r_take 17 hF rfl rfl rfl (by kernel_rfl) (by kernel_rfl) (by kernel_rfl) (fun _ _ _ h => h) rfl hS (fun w hS => x_nil (hF.tmp 11 rfl)) rfl ?_; clear hF; intro a hF
            refine r_take 18 hF rfl rfl rfl (by kernel_rfl) (by kernel_rfl) (by kernel_rfl) (fun _ _ _ h => h) rfl hS (fun w hS => x_faddr Try.underlying61 rfl ty59 (by decide) (hF.tmp 28 rfl) rfl) rfl ?_; clear hF; intro a hF
            refine r_do 19 rfl (by kernel_rfl) rfl rfl ?_
            refine w_store 1 hH ty59 rfl (hF.tmp 29 rfl) (hF.tmp 27 rfl) rfl (one1 rfl rfl) (by first | decide | exact Nat.le_of_ble_eq_true rfl) ?_
            clear hH; intro w hH
            clear hS; have hS : SL _ _ := SL.of hH (sub_nil _); refine ⟨hS, ?_⟩
            refine r_end (by kernel_rfl) ?_; clear hS
            refine hK6 _ _ ?_
            refine wp_seq_k fun khK12 hK12 => ?_
            refine wp_region_lit ?_
            refine l_at hF rfl rfl rfl (x_assign rfl) ?_; clear hF; intro a hF
            refine wpList_nil ?_
            refine hK12 _ _ ?_
            refine wp_ret ?_
            try simp only [Exit.then, Exit.inBlock]
            have hE_ := at_of hat.2.2
            have hM_ := (remS_on hat.2.2).resolve_right hc10
            refine fin_ret hF (res1 hF rfl rfl) ⟨Asn.all [(1, .blk bd (.cells #[.slice A27 ((S.take (fnd S n).toNat) ++ (S.drop (fnd S n + 1).toNat)).length c27, .slice Ar rt.length cr] 61 (0, 0))), (2, .rd_ SgE A27 ((S.take (fnd S n).toNat) ++ (S.drop (fnd S n + 1).toNat)) c27 (fun k => (fun k => (fun k => (fun _ => False) k ∨ oks k) k ∨ oks k) k ∨ (Value.slice A27 ((S.take (fnd S n).toNat) ++ (S.drop (fnd S n + 1).toNat)).length c27).ownBlock = some k)), (3, .rd_ (.int .u8) Ar rt cr okr)], by rw [hE_] <;> rfl, by rw [hM_]; exact ⟨_, _, _, _, _, _, rfl⟩, grew_of (hH.sub [(1, .blk bd (.cells #[.slice A27 ((S.take (fnd S n).toNat) ++ (S.drop (fnd S n + 1).toNat)).length c27, .slice Ar rt.length cr] 61 (0, 0))), (2, .rd_ SgE A27 ((S.take (fnd S n).toNat) ++ (S.drop (fnd S n + 1).toNat)) c27 (fun k => (fun k => (fun k => (fun _ => False) k ∨ oks k) k ∨ oks k) k ∨ (Value.slice A27 ((S.take (fnd S n).toNat) ++ (S.drop (fnd S n + 1).toNat)).length c27).ownBlock = some k)), (3, .rd_ (.int .u8) Ar rt cr okr)] (sub_cons (sub_cons (sub_cons (sub_nil _) 3 rfl) 2 rfl) 1 rfl)) (rdin_cons (fun k h => h.elim) (rdin_cons (fun k h => h.elim (fun h => h.elim (fun h => h.elim (fun h => h.elim) (fun h => .inr (.inl ⟨2, _, rfl, h⟩))) (fun h => .inr (.inl ⟨2, _, rfl, h⟩))) (fun h => (hb27 k h).elim .inl (fun h => .inr (.inr (.inr h))))) (rdin_cons (fun k h => .inr (.inl ⟨3, _, rfl, h⟩)) rdin_nil)))⟩
      ·
        refine w_at hF (x_load1 ty59 (hF.tmp 22 rfl) (blk_cell (hH.at 1 rfl) 0 rfl)) rfl rfl ?_
        clear hF; intro a hF
        clear hS; have hS : SL _ _ := SL.of hH (sub_nil _); refine ⟨hS, ?_⟩
        refine r_do2 5 15 rfl rfl (by kernel_rfl) rfl rfl rfl rfl ?_ ?_
        ·
          refine w_at hF (x_load1 ty59 (hF.tmp 15 rfl) (blk_cell (hH.at 1 rfl) 0 rfl)) rfl rfl ?_
          clear hF; intro a hF
          clear hS; have hS : SL _ _ := SL.of hH (sub_nil _); refine ⟨hS, ?_⟩
          refine r_do2 7 15 rfl rfl (by kernel_rfl) rfl rfl rfl rfl ?_ ?_
          ·
            refine w_at hF (x_slice_h Try.underlying59 ty115 (hF.tmp 16 rfl) (hF.tmp 17 rfl) (by omega) (by omega) ((hH.rd 2 rfl)).1) rfl rfl ?_
            clear hF; intro a hF
            clear hS; have hS : SL _ _ := SL.of hH (sub_nil _); refine ⟨hS, ?_⟩
            refine r_do2 8 15 rfl rfl (by kernel_rfl) rfl rfl rfl rfl ?_ ?_
            ·
              refine w_append 12 2 (xs := ([])) (ys := (S.take ((fnd S n).toNat))) hF hH rfl Try.underlying59 ty115 rfl rfl rfl rfl ((Rd.take ((hH.rd 2 rfl)) ((fnd S n).toNat))) (by intro k_ hk_; exact .inr hk_) (hF.tmp 12 rfl) (hF.tmp 18 rfl) (by simp only [List.length_nil, List.length_take]; omega) (by simp only [List.length_nil, List.length_take, maxLen]; omega) (fun k => (fun _ => False) k ∨ oks k) (fun w' v' h => h) (by rintro k_ (hk_ | hk_); exact .inl hk_; exact .inr hk_) ?_
              clear hF hH; intro a w v19 hF hH
              clear hS; have hS : SL _ _ := SL.of hH (sub_nil _); refine ⟨hS, ?_⟩
              rw [List.nil_append] at hH
              refine r_do 15 rfl (by kernel_rfl) rfl rfl ?_
              refine w_at hF (x_slice_l (E := SgE) Try.underlying59 ty115 (hF.tmp 23 rfl) (hF.tmp 25 rfl) (by omega) (by omega) ((hH.rd 2 rfl)).1) rfl rfl ?_
              clear hF; intro a hF
              clear hS; have hS : SL _ _ := SL.of hH (sub_nil _); refine ⟨hS, ?_⟩
              refine r_do 16 rfl (by kernel_rfl) rfl rfl ?_
              refine w_append 12 2 (xs := (S.take (fnd S n).toNat)) (ys := (S.drop (((fnd S n) + 1).toNat))) hF hH rfl Try.underlying59 ty115 rfl rfl rfl rfl ((Rd.drop ((hH.rd 2 rfl)) (by omega : ((fnd S n) + 1).toNat ≤ S.length))) (by intro k_ hk_; exact .inr hk_) (hF.tmp 19 rfl) (hF.tmp 26 rfl) (by simp only [List.length_drop, List.length_take]; omega) (by simp only [List.length_drop, List.length_take, maxLen]; omega) (fun k => (fun k => (fun _ => False) k ∨ oks k) k ∨ oks k) (fun w' v' h => h) (by rintro k_ (hk_ | hk_); exact .inl hk_; exact .inr hk_) ?_
              clear hF hH; intro a w v27 hF hH
              clear hS; have hS : SL _ _ := SL.of hH (sub_nil _); refine ⟨hS, ?_⟩
              obtain ⟨A27, c27, rfl⟩ := (hH.row 12 rfl).form
              have hb27 : ∀ k, (Value.slice A27 ((S.take (fnd S n).toNat) ++ (S.drop (fnd S n + 1).toNat)).length c27).ownBlock = some k → _ := hH.mine 12 _ rfl
              have hH := hH.freeze 12 rfl (fun k => (fun k => (fun k => (fun _ => False) k ∨ oks k) k ∨ oks k) k ∨ (Value.slice A27 ((S.take (fnd S n).toNat) ++ (S.drop (fnd S n + 1).toNat)).length c27).ownBlock = some k) (fun k => Iff.rfl)
              have hH := hH.subrd 12 rfl 2 (hH.rd 12 rfl) (fun _ h => h)
              refine r_take 17 hF rfl rfl rfl (by kernel_rfl) (by kernel_rfl) (by kernel_rfl) (fun _ _ _ h => h) rfl hS (fun w hS => x_nil (hF.tmp 11 rfl)) rfl ?_; clear hF; intro a hF
              refine r_take 18 hF rfl rfl rfl (by kernel_rfl) (by kernel_rfl) (by kernel_rfl) (fun _ _ _ h => h) rfl hS (fun w hS => x_faddr Try.underlying61 rfl ty59 (by decide) (hF.tmp 28 rfl) rfl) rfl ?_; clear hF; intro a hF
              refine r_do 19 rfl (by kernel_rfl) rfl rfl ?_
              refine w_store 1 hH ty59 rfl (hF.tmp 29 rfl) (hF.tmp 27 rfl) rfl (one1 rfl rfl) (by first | decide | exact Nat.le_of_ble_eq_true rfl) ?_
              clear hH; intro w hH
              clear hS; have hS : SL _ _ := SL.of hH (sub_nil _); refine ⟨hS, ?_⟩
              refine r_end (by kernel_rfl) ?_; clear hS
              refine hK6 _ _ ?_
              refine wp_seq_k fun khK13 hK13 => ?_
              refine wp_region_lit ?_
              refine l_at hF rfl rfl rfl (x_assign rfl) ?_; clear hF; intro a hF
              refine wpList_nil ?_
              refine hK13 _ _ ?_
              refine wp_ret ?_
              try simp only [Exit.then, Exit.inBlock]
              have hE_ := at_of hat.2.2
              have hM_ := (remS_on hat.2.2).resolve_right hc10
              refine fin_ret hF (res1 hF rfl rfl) ⟨Asn.all [(1, .blk bd (.cells #[.slice A27 ((S.take (fnd S n).toNat) ++ (S.drop (fnd S n + 1).toNat)).length c27, .slice Ar rt.length cr] 61 (0, 0))), (2, .rd_ SgE A27 ((S.take (fnd S n).toNat) ++ (S.drop (fnd S n + 1).toNat)) c27 (fun k => (fun k => (fun k => (fun _ => False) k ∨ oks k) k ∨ oks k) k ∨ (Value.slice A27 ((S.take (fnd S n).toNat) ++ (S.drop (fnd S n + 1).toNat)).length c27).ownBlock = some k)), (3, .rd_ (.int .u8) Ar rt cr okr)], by rw [hE_] <;> rfl, by rw [hM_]; exact ⟨_, _, _, _, _, _, rfl⟩, grew_of (hH.sub [(1, .blk bd (.cells #[.slice A27 ((S.take (fnd S n).toNat) ++ (S.drop (fnd S n + 1).toNat)).length c27, .slice Ar rt.length cr] 61 (0, 0))), (2, .rd_ SgE A27 ((S.take (fnd S n).toNat) ++ (S.drop (fnd S n + 1).toNat)) c27 (fun k => (fun k => (fun k => (fun _ => False) k ∨ oks k) k ∨ oks k) k ∨ (Value.slice A27 ((S.take (fnd S n).toNat) ++ (S.drop (fnd S n + 1).toNat)).length c27).ownBlock = some k)), (3, .rd_ (.int .u8) Ar rt cr okr)] (sub_cons (sub_cons (sub_cons (sub_nil _) 3 rfl) 2 rfl) 1 rfl)) (rdin_cons (fun k h => h.elim) (rdin_cons (fun k h => h.elim (fun h => h.elim (fun h => h.elim (fun h => h.elim) (fun h => .inr (.inl ⟨2, _, rfl, h⟩))) (fun h => .inr (.inl ⟨2, _, rfl, h⟩))) (fun h => (hb27 k h).elim .inl (fun h => .inr (.inr (.inr h))))) (rdin_cons (fun k h => .inr (.inl ⟨3, _, rfl, h⟩)) rdin_nil)))⟩
            ·
              refine w_at hF (x_slice_l (E := SgE) Try.underlying59 ty115 (hF.tmp 23 rfl) (hF.tmp 25 rfl) (by omega) (by omega) ((hH.rd 2 rfl)).1) rfl rfl ?_
              clear hF; intro a hF
              clear hS; have hS : SL _ _ := SL.of hH (sub_nil _); refine ⟨hS, ?_⟩
              refine r_do 8 rfl (by kernel_rfl) rfl rfl ?_
              refine w_append 12 2 (xs := ([])) (ys := (S.take ((fnd S n).toNat))) hF hH rfl Try.underlying59 ty115 rfl rfl rfl rfl ((Rd.take ((hH.rd 2 rfl)) ((fnd S n).toNat))) (by intro k_ hk_; exact .inr hk_) (hF.tmp 12 rfl) (hF.tmp 18 rfl) (by simp only [List.length_nil, List.length_take]; omega) (by simp only [List.length_nil, List.length_take, maxLen]; omega) (fun k => (fun _ => False) k ∨ oks k) (fun w' v' h => h) (by rintro k_ (hk_ | hk_); exact .inl hk_; exact .inr hk_) ?_
              clear hF hH; intro a w v19 hF hH
              clear hS; have hS : SL _ _ := SL.of hH (sub_nil _); refine ⟨hS, ?_⟩
              rw [List.nil_append] at hH
              refine r_do 16 rfl (by kernel_rfl) rfl rfl ?_
              refine w_append 12 2 (xs := (S.take (fnd S n).toNat)) (ys := (S.drop (((fnd S n) + 1).toNat))) hF hH rfl Try.underlying59 ty115 rfl rfl rfl rfl ((Rd.drop ((hH.rd 2 rfl)) (by omega : ((fnd S n) + 1).toNat ≤ S.length))) (by intro k_ hk_; exact .inr hk_) (hF.tmp 19 rfl) (hF.tmp 26 rfl) (by simp only [List.length_drop, List.length_take]; omega) (by simp only [List.length_drop, List.length_take, maxLen]; omega) (fun k => (fun k => (fun _ => False) k ∨ oks k) k ∨ oks k) (fun w' v' h => h) (by rintro k_ (hk_ | hk_); exact .inl hk_; exact .inr hk_) ?_
              clear hF hH; intro a w v27 hF hH
              clear hS; have hS : SL _ _ := SL.of hH (sub_nil _); refine ⟨hS, ?_⟩
              obtain ⟨A27, c27, rfl⟩ := (hH.row 12 rfl).form
              have hb27 : ∀ k, (Value.slice A27 ((S.take (fnd S n).toNat) ++ (S.drop (fnd S n + 1).toNat)).length c27).ownBlock = some k → _ := hH.mine 12 _ rfl
              have hH := hH.freeze 12 rfl (fun k => (fun k => (fun k => (fun _ => False) k ∨ oks k) k ∨ oks k) k ∨ (Value.slice A27 ((S.take (fnd S n).toNat) ++ (S.drop (fnd S n + 1).toNat)).length c27).ownBlock = some k) (fun k => Iff.rfl)
              have hH := hH.subrd 12 rfl 2 (hH.rd 12 rfl) (fun _ h => h)
              refine r_take 17 hF rfl rfl rfl (by kernel_rfl) (by kernel_rfl) (by kernel_rfl) (fun _ _ _ h => h) rfl hS (fun w hS => x_nil (hF.tmp 11 rfl)) rfl ?_; clear hF; intro a hF
              refine r_take 18 hF rfl rfl rfl (by kernel_rfl) (by kernel_rfl) (by kernel_rfl) (fun _ _ _ h => h) rfl hS (fun w hS => x_faddr Try.underlying61 rfl ty59 (by decide) (hF.tmp 28 rfl) rfl) rfl ?_; clear hF; intro a hF
              refine r_do 19 rfl (by kernel_rfl) rfl rfl ?_
              refine w_store 1 hH ty59 rfl (hF.tmp 29 rfl) (hF.tmp 27 rfl) rfl (one1 rfl rfl) (by first | decide | exact Nat.le_of_ble_eq_true rfl) ?_
              clear hH; intro w hH
              clear hS; have hS : SL _ _ := SL.of hH (sub_nil _); refine ⟨hS, ?_⟩
              refine r_end (by kernel_rfl) ?_; clear hS
              refine hK6 _ _ ?_
              refine wp_seq_k fun khK14 hK14 => ?_
              refine wp_region_lit ?_
              refine l_at hF rfl rfl rfl (x_assign rfl) ?_; clear hF; intro a hF
              refine wpList_nil ?_
              refine hK14 _ _ ?_
              refine wp_ret ?_
              try simp only [Exit.then, Exit.inBlock]
              have hE_ := at_of hat.2.2
              have hM_ := (remS_on hat.2.2).resolve_right hc10
              refine fin_ret hF (res1 hF rfl rfl) ⟨Asn.all [(1, .blk bd (.cells #[.slice A27 ((S.take (fnd S n).toNat) ++ (S.drop (fnd S n + 1).toNat)).length c27, .slice Ar rt.length cr] 61 (0, 0))), (2, .rd_ SgE A27 ((S.take (fnd S n).toNat) ++ (S.drop (fnd S n + 1).toNat)) c27 (fun k => (fun k => (fun k => (fun _ => False) k ∨ oks k) k ∨ oks k) k ∨ (Value.slice A27 ((S.take (fnd S n).toNat) ++ (S.drop (fnd S n + 1).toNat)).length c27).ownBlock = some k)), (3, .rd_ (.int .u8) Ar rt cr okr)], by rw [hE_] <;> rfl, by rw [hM_]; exact ⟨_, _, _, _, _, _, rfl⟩, grew_of (hH.sub [(1, .blk bd (.cells #[.slice A27 ((S.take (fnd S n).toNat) ++ (S.drop (fnd S n + 1).toNat)).length c27, .slice Ar rt.length cr] 61 (0, 0))), (2, .rd_ SgE A27 ((S.take (fnd S n).toNat) ++ (S.drop (fnd S n + 1).toNat)) c27 (fun k => (fun k => (fun k => (fun _ => False) k ∨ oks k) k ∨ oks k) k ∨ (Value.slice A27 ((S.take (fnd S n).toNat) ++ (S.drop (fnd S n + 1).toNat)).length c27).ownBlock = some k)), (3, .rd_ (.int .u8) Ar rt cr okr)] (sub_cons (sub_cons (sub_cons (sub_nil _) 3 rfl) 2 rfl) 1 rfl)) (rdin_cons (fun k h => h.elim) (rdin_cons (fun k h => h.elim (fun h => h.elim (fun h => h.elim (fun h => h.elim) (fun h => .inr (.inl ⟨2, _, rfl, h⟩))) (fun h => .inr (.inl ⟨2, _, rfl, h⟩))) (fun h => (hb27 k h).elim .inl (fun h => .inr (.inr (.inr h))))) (rdin_cons (fun k h => .inr (.inl ⟨3, _, rfl, h⟩)) rdin_nil)))⟩
          ·
            refine w_at hF (x_slice_l (E := SgE) Try.underlying59 ty115 (hF.tmp 23 rfl) (hF.tmp 25 rfl) (by omega) (by omega) ((hH.rd 2 rfl)).1) rfl rfl ?_
            clear hF; intro a hF
            clear hS; have hS : SL _ _ := SL.of hH (sub_nil _); refine ⟨hS, ?_⟩
            refine r_do 7 rfl (by kernel_rfl) rfl rfl ?_
            refine w_at hF (x_slice_h Try.underlying59 ty115 (hF.tmp 16 rfl) (hF.tmp 17 rfl) (by omega) (by omega) ((hH.rd 2 rfl)).1) rfl rfl ?_
            clear hF; intro a hF
            clear hS; have hS : SL _ _ := SL.of hH (sub_nil _); refine ⟨hS, ?_⟩
            refine r_do 8 rfl (by kernel_rfl) rfl rfl ?_
            refine w_append 12 2 (xs := ([])) (ys := (S.take ((fnd S n).toNat))) hF hH rfl Try.underlying59 ty115 rfl rfl rfl rfl ((Rd.take ((hH.rd 2 rfl)) ((fnd S n).toNat))) (by intro k_ hk_; exact .inr hk_) (hF.tmp 12 rfl) (hF.tmp 18 rfl) (by simp only [List.length_nil, List.length_take]; omega) (by simp only [List.length_nil, List.length_take, maxLen]; omega) (fun k => (fun _ => False) k ∨ oks k) (fun w' v' h => h) (by rintro k_ (hk_ | hk_); exact .inl hk_; exact .inr hk_) ?_
            clear hF hH; intro a w v19 hF hH
            clear hS; have hS : SL _ _ := SL.of hH (sub_nil _); refine ⟨hS, ?_⟩
            rw [List.nil_append] at hH
            refine r_do 16 rfl (by kernel_rfl) rfl rfl ?_
            refine w_append 12 2 (xs := (S.take (fnd S n).toNat)) (ys := (S.drop (((fnd S n) + 1).toNat))) hF hH rfl Try.underlying59 ty115 rfl rfl rfl rfl ((Rd.drop ((hH.rd 2 rfl)) (by omega : ((fnd S n) + 1).toNat ≤ S.length))) (by intro k_ hk_; exact .inr hk_) (hF.tmp 19 rfl) (hF.tmp 26 rfl) (by simp only [List.length_drop, List.length_take]; omega) (by simp only [List.length_drop, List.length_take, maxLen]; omega) (fun k => (fun k => (fun _ => False) k ∨ oks k) k ∨ oks k) (fun w' v' h => h) (by rintro k_ (hk_ | hk_); exact .inl hk_; exact .inr hk_) ?_
            clear hF hH; intro a w v27 hF hH
            clear hS; have hS : SL _ _ := SL.of hH (sub_nil _); refine ⟨hS, ?_⟩
            obtain ⟨A27, c27, rfl⟩ := (hH.row 12 rfl).form
            have hb27 : ∀ k, (Value.slice A27 ((S.take (fnd S n).toNat) ++ (S.drop (fnd S n + 1).toNat)).length c27).ownBlock = some k → _ := hH.mine 12 _ rfl
            have hH := hH.freeze 12 rfl (fun k => (fun k => (fun k => (fun _ => False) k ∨ oks k) k ∨ oks k) k ∨ (Value.slice A27 ((S.take (fnd S n).toNat) ++ (S.drop (fnd S n + 1).toNat)).length c27).ownBlock = some k) (fun k => Iff.rfl)
            have hH := hH.subrd 12 rfl 2 (hH.rd 12 rfl) (fun _ h => h)
            refine r_take 17 hF rfl rfl rfl (by kernel_rfl) (by kernel_rfl) (by kernel_rfl) (fun _ _ _ h => h) rfl hS (fun w hS => x_nil (hF.tmp 11 rfl)) rfl ?_; clear hF; intro a hF
            refine r_take 18 hF rfl rfl rfl (by kernel_rfl) (by kernel_rfl) (by kernel_rfl) (fun _ _ _ h => h) rfl hS (fun w hS => x_faddr Try.underlying61 rfl ty59 (by decide) (hF.tmp 28 rfl) rfl) rfl ?_; clear hF; intro a hF
            refine r_do 19 rfl (by kernel_rfl) rfl rfl ?_
            refine w_store 1 hH ty59 rfl (hF.tmp 29 rfl) (hF.tmp 27 rfl) rfl (one1 rfl rfl) (by first | decide | exact Nat.le_of_ble_eq_true rfl) ?_
            clear hH; intro w hH
            clear hS; have hS : SL _ _ := SL.of hH (sub_nil _); refine ⟨hS, ?_⟩
            refine r_end (by kernel_rfl) ?_; clear hS
            refine hK6 _ _ ?_
            refine wp_seq_k fun khK15 hK15 => ?_
            refine wp_region_lit ?_
            refine l_at hF rfl rfl rfl (x_assign rfl) ?_; clear hF; intro a hF
            refine wpList_nil ?_
            refine hK15 _ _ ?_
            refine wp_ret ?_
            try simp only [Exit.then, Exit.inBlock]
            have hE_ := at_of hat.2.2
            have hM_ := (remS_on hat.2.2).resolve_right hc10
            refine fin_ret hF (res1 hF rfl rfl) ⟨Asn.all [(1, .blk bd (.cells #[.slice A27 ((S.take (fnd S n).toNat) ++ (S.drop (fnd S n + 1).toNat)).length c27, .slice Ar rt.length cr] 61 (0, 0))), (2, .rd_ SgE A27 ((S.take (fnd S n).toNat) ++ (S.drop (fnd S n + 1).toNat)) c27 (fun k => (fun k => (fun k => (fun _ => False) k ∨ oks k) k ∨ oks k) k ∨ (Value.slice A27 ((S.take (fnd S n).toNat) ++ (S.drop (fnd S n + 1).toNat)).length c27).ownBlock = some k)), (3, .rd_ (.int .u8) Ar rt cr okr)], by rw [hE_] <;> rfl, by rw [hM_]; exact ⟨_, _, _, _, _, _, rfl⟩, grew_of (hH.sub [(1, .blk bd (.cells #[.slice A27 ((S.take (fnd S n).toNat) ++ (S.drop (fnd S n + 1).toNat)).length c27, .slice Ar rt.length cr] 61 (0, 0))), (2, .rd_ SgE A27 ((S.take (fnd S n).toNat) ++ (S.drop (fnd S n + 1).toNat)) c27 (fun k => (fun k => (fun k => (fun _ => False) k ∨ oks k) k ∨ oks k) k ∨ (Value.slice A27 ((S.take (fnd S n).toNat) ++ (S.drop (fnd S n + 1).toNat)).length c27).ownBlock = some k)), (3, .rd_ (.int .u8) Ar rt cr okr)] (sub_cons (sub_cons (sub_cons (sub_nil _) 3 rfl) 2 rfl) 1 rfl)) (rdin_cons (fun k h => h.elim) (rdin_cons (fun k h => h.elim (fun h => h.elim (fun h => h.elim (fun h => h.elim) (fun h => .inr (.inl ⟨2, _, rfl, h⟩))) (fun h => .inr (.inl ⟨2, _, rfl, h⟩))) (fun h => (hb27 k h).elim .inl (fun h => .inr (.inr (.inr h))))) (rdin_cons (fun k h => .inr (.inl ⟨3, _, rfl, h⟩)) rdin_nil)))⟩
        ·
          refine w_at hF (x_slice_l (E := SgE) Try.underlying59 ty115 (hF.tmp 23 rfl) (hF.tmp 25 rfl) (by omega) (by omega) ((hH.rd 2 rfl)).1) rfl rfl ?_
          clear hF; intro a hF
          clear hS; have hS : SL _ _ := SL.of hH (sub_nil _); refine ⟨hS, ?_⟩
          refine r_do 5 rfl (by kernel_rfl) rfl rfl ?_
          refine w_at hF (x_load1 ty59 (hF.tmp 15 rfl) (blk_cell (hH.at 1 rfl) 0 rfl)) rfl rfl ?_
          clear hF; intro a hF
          clear hS; have hS : SL _ _ := SL.of hH (sub_nil _); refine ⟨hS, ?_⟩
          refine r_do 7 rfl (by kernel_rfl) rfl rfl ?_
          refine w_at hF (x_slice_h Try.underlying59 ty115 (hF.tmp 16 rfl) (hF.tmp 17 rfl) (by omega) (by omega) ((hH.rd 2 rfl)).1) rfl rfl ?_
          clear hF; intro a hF
          clear hS; have hS : SL _ _ := SL.of hH (sub_nil _); refine ⟨hS, ?_⟩
          refine r_do 8 rfl (by kernel_rfl) rfl rfl ?_
          refine w_append 12 2 (xs := ([])) (ys := (S.take ((fnd S n).toNat))) hF hH rfl Try.underlying59 ty115 rfl rfl rfl rfl ((Rd.take ((hH.rd 2 rfl)) ((fnd S n).toNat))) (by intro k_ hk_; exact .inr hk_) (hF.tmp 12 rfl) (hF.tmp 18 rfl) (by simp only [List.length_nil, List.length_take]; omega) (by simp only [List.length_nil, List.length_take, maxLen]; omega) (fun k => (fun _ => False) k ∨ oks k) (fun w' v' h => h) (by rintro k_ (hk_ | hk_); exact .inl hk_; exact .inr hk_) ?_
          clear hF hH; intro a w v19 hF hH
          clear hS; have hS : SL _ _ := SL.of hH (sub_nil _); refine ⟨hS, ?_⟩
          rw [List.nil_append] at hH
          refine r_do 16 rfl (by kernel_rfl) rfl rfl ?_
          refine w_append 12 2 (xs := (S.take (fnd S n).toNat)) (ys := (S.drop (((fnd S n) + 1).toNat))) hF hH rfl Try.underlying59 ty115 rfl rfl rfl rfl ((Rd.drop ((hH.rd 2 rfl)) (by omega : ((fnd S n) + 1).toNat ≤ S.length))) (by intro k_ hk_; exact .inr hk_) (hF.tmp 19 rfl) (hF.tmp 26 rfl) (by simp only [List.length_drop, List.length_take]; omega) (by simp only [List.length_drop, List.length_take, maxLen]; omega) (fun k => (fun k => (fun _ => False) k ∨ oks k) k ∨ oks k) (fun w' v' h => h) (by rintro k_ (hk_ | hk_); exact .inl hk_; exact .inr hk_) ?_
          clear hF hH; intro a w v27 hF hH
          clear hS; have hS : SL _ _ := SL.of hH (sub_nil _); refine ⟨hS, ?_⟩
          obtain ⟨A27, c27, rfl⟩ := (hH.row 12 rfl).form
          have hb27 : ∀ k, (Value.slice A27 ((S.take (fnd S n).toNat) ++ (S.drop (fnd S n + 1).toNat)).length c27).ownBlock = some k → _ := hH.mine 12 _ rfl
          have hH := hH.freeze 12 rfl (fun k => (fun k => (fun k => (fun _ => False) k ∨ oks k) k ∨ oks k) k ∨ (Value.slice A27 ((S.take (fnd S n).toNat) ++ (S.drop (fnd S n + 1).toNat)).length c27).ownBlock = some k) (fun k => Iff.rfl)
          have hH := hH.subrd 12 rfl 2 (hH.rd 12 rfl) (fun _ h => h)
          refine r_take 17 hF rfl rfl rfl (by kernel_rfl) (by kernel_rfl) (by kernel_rfl) (fun _ _ _ h => h) rfl hS (fun w hS => x_nil (hF.tmp 11 rfl)) rfl ?_; clear hF; intro a hF
          refine r_take 18 hF rfl rfl rfl (by kernel_rfl) (by kernel_rfl) (by kernel_rfl) (fun _ _ _ h => h) rfl hS (fun w hS => x_faddr Try.underlying61 rfl ty59 (by decide) (hF.tmp 28 rfl) rfl) rfl ?_; clear hF; intro a hF
          refine r_do 19 rfl (by kernel_rfl) rfl rfl ?_
          refine w_store 1 hH ty59 rfl (hF.tmp 29 rfl) (hF.tmp 27 rfl) rfl (one1 rfl rfl) (by first | decide | exact Nat.le_of_ble_eq_true rfl) ?_
          clear hH; intro w hH
          clear hS; have hS : SL _ _ := SL.of hH (sub_nil _); refine ⟨hS, ?_⟩
          refine r_end (by kernel_rfl) ?_; clear hS
          refine hK6 _ _ ?_
          refine wp_seq_k fun khK16 hK16 => ?_
          refine wp_region_lit ?_
          refine l_at hF rfl rfl rfl (x_assign rfl) ?_; clear hF; intro a hF
          refine wpList_nil ?_
          refine hK16 _ _ ?_
          refine wp_ret ?_
          try simp only [Exit.then, Exit.inBlock]
          have hE_ := at_of hat.2.2
          have hM_ := (remS_on hat.2.2).resolve_right hc10
          refine fin_ret hF (res1 hF rfl rfl) ⟨Asn.all [(1, .blk bd (.cells #[.slice A27 ((S.take (fnd S n).toNat) ++ (S.drop (fnd S n + 1).toNat)).length c27, .slice Ar rt.length cr] 61 (0, 0))), (2, .rd_ SgE A27 ((S.take (fnd S n).toNat) ++ (S.drop (fnd S n + 1).toNat)) c27 (fun k => (fun k => (fun k => (fun _ => False) k ∨ oks k) k ∨ oks k) k ∨ (Value.slice A27 ((S.take (fnd S n).toNat) ++ (S.drop (fnd S n + 1).toNat)).length c27).ownBlock = some k)), (3, .rd_ (.int .u8) Ar rt cr okr)], by rw [hE_] <;> rfl, by rw [hM_]; exact ⟨_, _, _, _, _, _, rfl⟩, grew_of (hH.sub [(1, .blk bd (.cells #[.slice A27 ((S.take (fnd S n).toNat) ++ (S.drop (fnd S n + 1).toNat)).length c27, .slice Ar rt.length cr] 61 (0, 0))), (2, .rd_ SgE A27 ((S.take (fnd S n).toNat) ++ (S.drop (fnd S n + 1).toNat)) c27 (fun k => (fun k => (fun k => (fun _ => False) k ∨ oks k) k ∨ oks k) k ∨ (Value.slice A27 ((S.take (fnd S n).toNat) ++ (S.drop (fnd S n + 1).toNat)).length c27).ownBlock = some k)), (3, .rd_ (.int .u8) Ar rt cr okr)] (sub_cons (sub_cons (sub_cons (sub_nil _) 3 rfl) 2 rfl) 1 rfl)) (rdin_cons (fun k h => h.elim) (rdin_cons (fun k h => h.elim (fun h => h.elim (fun h => h.elim (fun h => h.elim) (fun h => .inr (.inl ⟨2, _, rfl, h⟩))) (fun h => .inr (.inl ⟨2, _, rfl, h⟩))) (fun h => (hb27 k h).elim .inl (fun h => .inr (.inr (.inr h))))) (rdin_cons (fun k h => .inr (.inl ⟨3, _, rfl, h⟩)) rdin_nil)))⟩
    ·
      refine w_at hF (x_load1 ty59 (hF.tmp 15 rfl) (blk_cell (hH.at 1 rfl) 0 rfl)) rfl rfl ?_
      clear hF; intro a hF
      clear hS; have hS : SL _ _ := SL.of hH (sub_nil _); refine ⟨hS, ?_⟩
      refine r_do3 1 7 12 rfl rfl rfl (by kernel_rfl) rfl rfl rfl rfl rfl rfl ?_ ?_ ?_
      ·
        refine w_lit0 SgE 12 hF hH rfl Try.underlying59 ty115 ?_
        clear hF hH; intro a w b12 hF hH
        clear hS; have hS : SL _ _ := SL.of hH (sub_nil _); refine ⟨hS, ?_⟩
        refine r_do2 7 12 rfl rfl (by kernel_rfl) rfl rfl rfl rfl ?_ ?_
        ·
          refine w_at hF (x_slice_h Try.underlying59 ty115 (hF.tmp 16 rfl) (hF.tmp 17 rfl) (by omega) (by omega) ((hH.rd 2 rfl)).1) rfl rfl ?_
          clear hF; intro a hF
          clear hS; have hS : SL _ _ := SL.of hH (sub_nil _); refine ⟨hS, ?_⟩
          refine r_do2 8 12 rfl rfl (by kernel_rfl) rfl rfl rfl rfl ?_ ?_
          ·
            refine w_append 12 2 (xs := ([])) (ys := (S.take ((fnd S n).toNat))) hF hH rfl Try.underlying59 ty115 rfl rfl rfl rfl ((Rd.take ((hH.rd 2 rfl)) ((fnd S n).toNat))) (by intro k_ hk_; exact .inr hk_) (hF.tmp 12 rfl) (hF.tmp 18 rfl) (by simp only [List.length_nil, List.length_take]; omega) (by simp only [List.length_nil, List.length_take, maxLen]; omega) (fun k => (fun _ => False) k ∨ oks k) (fun w' v' h => h) (by rintro k_ (hk_ | hk_); exact .inl hk_; exact .inr hk_) ?_
            clear hF hH; intro a w v19 hF hH
            clear hS; have hS : SL _ _ := SL.of hH (sub_nil _); refine ⟨hS, ?_⟩
            rw [List.nil_append] at hH
            refine r_do 12 rfl (by kernel_rfl) rfl rfl ?_
            refine w_at hF (x_load1 ty59 (hF.tmp 22 rfl) (blk_cell (hH.at 1 rfl) 0 rfl)) rfl rfl ?_
            clear hF; intro a hF
            clear hS; have hS : SL _ _ := SL.of hH (sub_nil _); refine ⟨hS, ?_⟩
            refine r_do 15 rfl (by kernel_rfl) rfl rfl ?_
            refine w_at hF (x_slice_l (E := SgE) Try.underlying59 ty115 (hF.tmp 23 rfl) (hF.tmp 25 rfl) (by omega) (by omega) ((hH.rd 2 rfl)).1) rfl rfl ?_
            clear hF; intro a hF
            clear hS; have hS : SL _ _ := SL.of hH (sub_nil _); refine ⟨hS, ?_⟩
            refine r_do 16 rfl (by kernel_rfl) rfl rfl ?_
            refine w_append 12 2 (xs := (S.take (fnd S n).toNat)) (ys := (S.drop (((fnd S n) + 1).toNat))) hF hH rfl Try.underlying59 ty115 rfl rfl rfl rfl ((Rd.drop ((hH.rd 2 rfl)) (by omega : ((fnd S n) + 1).toNat ≤ S.length))) (by intro k_ hk_; exact .inr hk_) (hF.tmp 19 rfl) (hF.tmp 26 rfl) (by simp only [List.length_drop, List.length_take]; omega) (by simp only [List.length_drop, List.length_take, maxLen]; omega) (fun k => (fun k => (fun _ => False) k ∨ oks k) k ∨ oks k) (fun w' v' h => h) (by rintro k_ (hk_ | hk_); exact .inl hk_; exact .inr hk_) ?_
            clear hF hH; intro a w v27 hF hH
            clear hS; have hS : SL _ _ := SL.of hH (sub_nil _); refine ⟨hS, ?_⟩
            obtain ⟨A27, c27, rfl⟩ := (hH.row 12 rfl).form
            have hb27 : ∀ k, (Value.slice A27 ((S.take (fnd S n).toNat) ++ (S.drop (fnd S n + 1).toNat)).length c27).ownBlock = some k → _ := hH.mine 12 _ rfl
            have hH := hH.freeze 12 rfl (fun k => (fun k => (fun k => (fun _ => False) k ∨ oks k) k ∨ oks k) k ∨ (Value.slice A27 ((S.take (fnd S n).toNat) ++ (S.drop (fnd S n + 1).toNat)).length c27).ownBlock = some k) (fun k => Iff.rfl)
            have hH := hH.subrd 12 rfl 2 (hH.rd 12 rfl) (fun _ h => h)
            refine r_take 17 hF rfl rfl rfl (by kernel_rfl) (by kernel_rfl) (by kernel_rfl) (fun _ _ _ h => h) rfl hS (fun w hS => x_nil (hF.tmp 11 rfl)) rfl ?_; clear hF; intro a hF
            refine r_take 18 hF rfl rfl rfl (by kernel_rfl) (by kernel_rfl) (by kernel_rfl) (fun _ _ _ h => h) rfl hS (fun w hS => x_faddr Try.underlying61 rfl ty59 (by decide) (hF.tmp 28 rfl) rfl) rfl ?_; clear hF; intro a hF
            refine r_do 19 rfl (by kernel_rfl) rfl rfl ?_
            refine w_store 1 hH ty59 rfl (hF.tmp 29 rfl) (hF.tmp 27 rfl) rfl (one1 rfl rfl) (by first | decide | exact Nat.le_of_ble_eq_true rfl) ?_
            clear hH; intro w hH
            clear hS; have hS : SL _ _ := SL.of hH (sub_nil _); refine ⟨hS, ?_⟩
            refine r_end (by kernel_rfl) ?_; clear hS
            refine hK6 _ _ ?_
            refine wp_seq_k fun khK17 hK17 => ?_
            refine wp_region_lit ?_
            refine l_at hF rfl rfl rfl (x_assign rfl) ?_; clear hF; intro a hF
            refine wpList_nil ?_
            refine hK17 _ _ ?_
            refine wp_ret ?_
            try simp only [Exit.then, Exit.inBlock]
            have hE_ := at_of hat.2.2
            have hM_ := (remS_on hat.2.2).resolve_right hc10
            refine fin_ret hF (res1 hF rfl rfl) ⟨Asn.all [(1, .blk bd (.cells #[.slice A27 ((S.take (fnd S n).toNat) ++ (S.drop (fnd S n + 1).toNat)).length c27, .slice Ar rt.length cr] 61 (0, 0))), (2, .rd_ SgE A27 ((S.take (fnd S n).toNat) ++ (S.drop (fnd S n + 1).toNat)) c27 (fun k => (fun k => (fun k => (fun _ => False) k ∨ oks k) k ∨ oks k) k ∨ (Value.slice A27 ((S.take (fnd S n).toNat) ++ (S.drop (fnd S n + 1).toNat)).length c27).ownBlock = some k)), (3, .rd_ (.int .u8) Ar rt cr okr)], by rw [hE_] <;> rfl, by rw [hM_]; exact ⟨_, _, _, _, _, _, rfl⟩, grew_of (hH.sub [(1, .blk bd (.cells #[.slice A27 ((S.take (fnd S n).toNat) ++ (S.drop (fnd S n + 1).toNat)).length c27, .slice Ar rt.length cr] 61 (0, 0))), (2, .rd_ SgE A27 ((S.take (fnd S n).toNat) ++ (S.drop (fnd S n + 1).toNat)) c27 (fun k => (fun k => (fun k => (fun _ => False) k ∨ oks k) k ∨ oks k) k ∨ (Value.slice A27 ((S.take (fnd S n).toNat) ++ (S.drop (fnd S n + 1).toNat)).length c27).ownBlock = some k)), (3, .rd_ (.int .u8) Ar rt cr okr)] (sub_cons (sub_cons (sub_cons (sub_nil _) 3 rfl) 2 rfl) 1 rfl)) (rdin_cons (fun k h => h.elim) (rdin_cons (fun k h => h.elim (fun h => h.elim (fun h => h.elim (fun h => h.elim) (fun h => .inr (.inl ⟨2, _, rfl, h⟩))) (fun h => .inr (.inl ⟨2, _, rfl, h⟩))) (fun h => (hb27 k h).elim .inl (fun h => .inr (.inr (.inr h))))) (rdin_cons (fun k h => .inr (.inl ⟨3, _, rfl, h⟩)) rdin_nil)))⟩
          ·
            refine w_at hF (x_load1 ty59 (hF.tmp 22 rfl) (blk_cell (hH.at 1 rfl) 0 rfl)) rfl rfl ?_
            clear hF; intro a hF
            clear hS; have hS : SL _ _ := SL.of hH (sub_nil _); refine ⟨hS, ?_⟩
            refine r_do2 8 15 rfl rfl (by kernel_rfl) rfl rfl rfl rfl ?_ ?_
            ·
              refine w_append 12 2 (xs := ([])) (ys := (S.take ((fnd S n).toNat))) hF hH rfl Try.underlying59 ty115 rfl rfl rfl rfl ((Rd.take ((hH.rd 2 rfl)) ((fnd S n).toNat))) (by intro k_ hk_; exact .inr hk_) (hF.tmp 12 rfl) (hF.tmp 18 rfl) (by simp only [List.length_nil, List.length_take]; omega) (by simp only [List.length_nil, List.length_take, maxLen]; omega) (fun k => (fun _ => False) k ∨ oks k) (fun w' v' h => h) (by rintro k_ (hk_ | hk_); exact .inl hk_; exact .inr hk_) ?_
              clear hF hH; intro a w v19 hF hH
              clear hS; have hS : SL _ _ := SL.of hH (sub_nil _); refine ⟨hS, ?_⟩
              rw [List.nil_append] at hH
              refine r_do 15 rfl (by kernel_rfl) rfl rfl ?_
              refine w_at hF (x_slice_l (E := SgE) Try.underlying59 ty115 (hF.tmp 23 rfl) (hF.tmp 25 rfl) (by omega) (by omega) ((hH.rd 2 rfl)).1) rfl rfl ?_
              clear hF; intro a hF
              clear hS; have hS : SL _ _ := SL.of hH (sub_nil _); refine ⟨hS, ?_⟩
              refine r_do 16 rfl (by kernel_rfl) rfl rfl ?_
              refine w_append 12 2 (xs := (S.take (fnd S n).toNat)) (ys := (S.drop (((fnd S n) + 1).toNat))) hF hH rfl Try.underlying59 ty115 rfl rfl rfl rfl ((Rd.drop ((hH.rd 2 rfl)) (by omega : ((fnd S n) + 1).toNat ≤ S.length))) (by intro k_ hk_; exact .inr hk_) (hF.tmp 19 rfl) (hF.tmp 26 rfl) (by simp only [List.length_drop, List.length_take]; omega) (by simp only [List.length_drop, List.length_take, maxLen]; omega) (fun k => (fun k => (fun _ => False) k ∨ oks k) k ∨ oks k) (fun w' v' h => h) (by rintro k_ (hk_ | hk_); exact .inl hk_; exact .inr hk_) ?_
              clear hF hH; intro a w v27 hF hH
              clear hS; have hS : SL _ _ := SL.of hH (sub_nil _); refine ⟨hS, ?_⟩
              obtain ⟨A27, c27, rfl⟩ := (hH.row 12 rfl).form
              have hb27 : ∀ k, (Value.slice A27 ((S.take (fnd S n).toNat) ++ (S.drop (fnd S n + 1).toNat)).length c27).ownBlock = some k → _ := hH.mine 12 _ rfl
              have hH := hH.freeze 12 rfl (fun k => (fun k => (fun k => (fun _ => False) k ∨ oks k) k ∨ oks k) k ∨ (Value.slice A27 ((S.take (fnd S n).toNat) ++ (S.drop (fnd S n + 1).toNat)).length c27).ownBlock = some k) (fun k => Iff.rfl)
              have hH := hH.subrd 12 rfl 2 (hH.rd 12 rfl) (fun _ h => h)
              refine r_take 17 hF rfl rfl rfl (by kernel_rfl) (by kernel_rfl) (by kernel_rfl) (fun _ _ _ h => h) rfl hS (fun w hS => x_nil (hF.tmp 11 rfl)) rfl ?_; clear hF; intro a hF
              refine r_take 18 hF rfl rfl rfl (by kernel_rfl) (by kernel_rfl) (by kernel_rfl) (fun _ _ _ h => h) rfl hS (fun w hS => x_faddr Try.underlying61 rfl ty59 (by decide) (hF.tmp 28 rfl) rfl) rfl ?_; clear hF; intro a hF
              refine r_do 19 rfl (by kernel_rfl) rfl rfl ?_
              refine w_store 1 hH ty59 rfl (hF.tmp 29 rfl) (hF.tmp 27 rfl) rfl (one1 rfl rfl) (by first | decide | exact Nat.le_of_ble_eq_true rfl) ?_
              clear hH; intro w hH
              clear hS; have hS : SL _ _ := SL.of hH (sub_nil _); refine ⟨hS, ?_⟩
              refine r_end (by kernel_rfl) ?_; clear hS
              refine hK6 _ _ ?_
              refine wp_seq_k fun khK18 hK18 => ?_
              refine wp_region_lit ?_
              refine l_at hF rfl rfl rfl (x_assign rfl) ?_; clear hF; intro a hF
              refine wpList_nil ?_
              refine hK18 _ _ ?_
              refine wp_ret ?_
              try simp only [Exit.then, Exit.inBlock]
              have hE_ := at_of hat.2.2
              have hM_ := (remS_on hat.2.2).resolve_right hc10
              refine fin_ret hF (res1 hF rfl rfl) ⟨Asn.all [(1, .blk bd (.cells #[.slice A27 ((S.take (fnd S n).toNat) ++ (S.drop (fnd S n + 1).toNat)).length c27, .slice Ar rt.length cr] 61 (0, 0))), (2, .rd_ SgE A27 ((S.take (fnd S n).toNat) ++ (S.drop (fnd S n + 1).toNat)) c27 (fun k => (fun k => (fun k => (fun _ => False) k ∨ oks k) k ∨ oks k) k ∨ (Value.slice A27 ((S.take (fnd S n).toNat) ++ (S.drop (fnd S n + 1).toNat)).length c27).ownBlock = some k)), (3, .rd_ (.int .u8) Ar rt cr okr)], by rw [hE_] <;> rfl, by rw [hM_]; exact ⟨_, _, _, _, _, _, rfl⟩, grew_of (hH.sub [(1, .blk bd (.cells #[.slice A27 ((S.take (fnd S n).toNat) ++ (S.drop (fnd S n + 1).toNat)).length c27, .slice Ar rt.length cr] 61 (0, 0))), (2, .rd_ SgE A27 ((S.take (fnd S n).toNat) ++ (S.drop (fnd S n + 1).toNat)) c27 (fun k => (fun k => (fun k => (fun _ => False) k ∨ oks k) k ∨ oks k) k ∨ (Value.slice A27 ((S.take (fnd S n).toNat) ++ (S.drop (fnd S n + 1).toNat)).length c27).ownBlock = some k)), (3, .rd_ (.int .u8) Ar rt cr okr)] (sub_cons (sub_cons (sub_cons (sub_nil _) 3 rfl) 2 rfl) 1 rfl)) (rdin_cons (fun k h => h.elim) (rdin_cons (fun k h => h.elim (fun h => h.elim (fun h => h.elim (fun h => h.elim) (fun h => .inr (.inl ⟨2, _, rfl, h⟩))) (fun h => .inr (.inl ⟨2, _, rfl, h⟩))) (fun h => (hb27 k h).elim .inl (fun h => .inr (.inr (.inr h))))) (rdin_cons (fun k h => .inr (.inl ⟨3, _, rfl, h⟩)) rdin_nil)))⟩
            ·
              refine w_at hF (x_slice_l (E := SgE) Try.underlying59 ty115 (hF.tmp 23 rfl) (hF.tmp 25 rfl) (by omega) (by omega) ((hH.rd 2 rfl)).1) rfl rfl ?_
              clear hF; intro a hF
              clear hS; have hS : SL _ _ := SL.of hH (sub_nil _); refine ⟨hS, ?_⟩
              refine r_do 8 rfl (by kernel_rfl) rfl rfl ?_
              refine w_append 12 2 (xs := ([])) (ys := (S.take ((fnd S n).toNat))) hF hH rfl Try.underlying59 ty115 rfl rfl rfl rfl ((Rd.take ((hH.rd 2 rfl)) ((fnd S n).toNat))) (by intro k_ hk_; exact .inr hk_) (hF.tmp 12 rfl) (hF.tmp 18 rfl) (by simp only [List.length_nil, List.length_take]; omega) (by simp only [List.length_nil, List.length_take, maxLen]; omega) (fun k => (fun _ => False) k ∨ oks k) (fun w' v' h => h) (by rintro k_ (hk_ | hk_); exact .inl hk_; exact .inr hk_) ?_
              clear hF hH; intro a w v19 hF hH
              clear hS; have hS : SL _ _ := SL.of hH (sub_nil _); refine ⟨hS, ?_⟩
              rw [List.nil_append] at hH
              refine r_do 16 rfl (by kernel_rfl) rfl rfl ?_
              refine w_append 12 2 (xs := (S.take (fnd S n).toNat)) (ys := (S.drop (((fnd S n) + 1).toNat))) hF hH rfl Try.underlying59 ty115 rfl rfl rfl rfl ((Rd.drop ((hH.rd 2 rfl)) (by omega : ((fnd S n) + 1).toNat ≤ S.length))) (by intro k_ hk_; exact .inr hk_) (hF.tmp 19 rfl) (hF.tmp 26 rfl) (by simp only [List.length_drop, List.length_take]; omega) (by simp only [List.length_drop, List.length_take, maxLen]; omega) (fun k => (fun k => (fun _ => False) k ∨ oks k) k ∨ oks k) (fun w' v' h => h) (by rintro k_ (hk_ | hk_); exact .inl hk_; exact .inr hk_) ?_
              clear hF hH; intro a w v27 hF hH
              clear hS; have hS : SL _ _ := SL.of hH (sub_nil _); refine ⟨hS, ?_⟩
              obtain ⟨A27, c27, rfl⟩ := (hH.row 12 rfl).form
              have hb27 : ∀ k, (Value.slice A27 ((S.take (fnd S n).toNat) ++ (S.drop (fnd S n + 1).toNat)).length c27).ownBlock = some k → _ := hH.mine 12 _ rfl
              have hH := hH.freeze 12 rfl (fun k => (fun k => (fun k => (fun _ => False) k ∨ oks k) k ∨ oks k) k ∨ (Value.slice A27 ((S.take (fnd S n).toNat) ++ (S.drop (fnd S n + 1).toNat)).length c27).ownBlock = some k) (fun k => Iff.rfl)
              have hH := hH.subrd 12 rfl 2 (hH.rd 12 rfl) (fun _ h => h)
              refine r_take 17 hF rfl rfl rfl (by kernel_rfl) (by kernel_rfl) (by kernel_rfl) (fun _ _ _ h => h) rfl hS (fun w hS => x_nil (hF.tmp 11 rfl)) rfl ?_; clear hF; intro a hF
              refine r_take 18 hF rfl rfl rfl (by kernel_rfl) (by kernel_rfl) (by kernel_rfl) (fun _ _ _ h => h) rfl hS (fun w hS => x_faddr Try.underlying61 rfl ty59 (by decide) (hF.tmp 28 rfl) rfl) rfl ?_; clear hF; intro a hF
              refine r_do 19 rfl (by kernel_rfl) rfl rfl ?_
              refine w_store 1 hH ty59 rfl (hF.tmp 29 rfl) (hF.tmp 27 rfl) rfl (one1 rfl rfl) (by first | decide | exact Nat.le_of_ble_eq_true rfl) ?_
              clear hH; intro w hH
              clear hS; have hS : SL _ _ := SL.of hH (sub_nil _); refine ⟨hS, ?_⟩
              refine r_end (by kernel_rfl) ?_; clear hS
              refine hK6 _ _ ?_
              refine wp_seq_k fun khK19 hK19 => ?_
              refine wp_region_lit ?_
              refine l_at hF rfl rfl rfl (x_assign rfl) ?_; clear hF; intro a hF
              refine wpList_nil ?_
              refine hK19 _ _ ?_
              refine wp_ret ?_
              try simp only [Exit.then, Exit.inBlock]
              have hE_ := at_of hat.2.2
              have hM_ := (remS_on hat.2.2).resolve_right hc10
              refine fin_ret hF (res1 hF rfl rfl) ⟨Asn.all [(1, .blk bd (.cells #[.slice A27 ((S.take (fnd S n).toNat) ++ (S.drop (fnd S n + 1).toNat)).length c27, .slice Ar rt.length cr] 61 (0, 0))), (2, .rd_ SgE A27 ((S.take (fnd S n).toNat) ++ (S.drop (fnd S n + 1).toNat)) c27 (fun k => (fun k => (fun k => (fun _ => False) k ∨ oks k) k ∨ oks k) k ∨ (Value.slice A27 ((S.take (fnd S n).toNat) ++ (S.drop (fnd S n + 1).toNat)).length c27).ownBlock = some k)), (3, .rd_ (.int .u8) Ar rt cr okr)], by rw [hE_] <;> rfl, by rw [hM_]; exact ⟨_, _, _, _, _, _, rfl⟩, grew_of (hH.sub [(1, .blk bd (.cells #[.slice A27 ((S.take (fnd S n).toNat) ++ (S.drop (fnd S n + 1).toNat)).length c27, .slice Ar rt.length cr] 61 (0, 0))), (2, .rd_ SgE A27 ((S.take (fnd S n).toNat) ++ (S.drop (fnd S n + 1).toNat)) c27 (fun k => (fun k => (fun k => (fun _ => False) k ∨ oks k) k ∨ oks k) k ∨ (Value.slice A27 ((S.take (fnd S n).toNat) ++ (S.drop (fnd S n + 1).toNat)).length c27).ownBlock = some k)), (3, .rd_ (.int .u8) Ar rt cr okr)] (sub_cons (sub_cons (sub_cons (sub_nil _) 3 rfl) 2 rfl) 1 rfl)) (rdin_cons (fun k h => h.elim) (rdin_cons (fun k h => h.elim (fun h => h.elim (fun h => h.elim (fun h => h.elim) (fun h => .inr (.inl ⟨2, _, rfl, h⟩))) (fun h => .inr (.inl ⟨2, _, rfl, h⟩))) (fun h => (hb27 k h).elim .inl (fun h => .inr (.inr (.inr h))))) (rdin_cons (fun k h => .inr (.inl ⟨3, _, rfl, h⟩)) rdin_nil)))⟩
        ·
          refine w_at hF (x_load1 ty59 (hF.tmp 22 rfl) (blk_cell (hH.at 1 rfl) 0 rfl)) rfl rfl ?_
          clear hF; intro a hF
          clear hS; have hS : SL _ _ := SL.of hH (sub_nil _); refine ⟨hS, ?_⟩
          refine r_do2 7 15 rfl rfl (by kernel_rfl) rfl rfl rfl rfl ?_ ?_
          ·
            refine w_at hF (x_slice_h Try.underlying59 ty115 (hF.tmp 16 rfl) (hF.tmp 17 rfl) (by omega) (by omega) ((hH.rd 2 rfl)).1) rfl rfl ?_
            clear hF; intro a hF
            clear hS; have hS : SL _ _ := SL.of hH (sub_nil _); refine ⟨hS, ?_⟩
            refine r_do2 8 15 rfl rfl (by kernel_rfl) rfl rfl rfl rfl ?_ ?_
            ·
              refine w_append 12 2 (xs := ([])) (ys := (S.take ((fnd S n).toNat))) hF hH rfl Try.underlying59 ty115 rfl rfl rfl rfl ((Rd.take ((hH.rd 2 rfl)) ((fnd S n).toNat))) (by intro k_ hk_; exact .inr hk_) (hF.tmp 12 rfl) (hF.tmp 18 rfl) (by simp only [List.length_nil, List.length_take]; omega) (by simp only [List.length_nil, List.length_take, maxLen]; omega) (fun k => (fun _ => False) k ∨ oks k) (fun w' v' h => h) (by rintro k_ (hk_ | hk_); exact .inl hk_; exact .inr hk_) ?_
              clear hF hH; intro a w v19 hF hH
              clear hS; have hS : SL _ _ := SL.of hH (sub_nil _); refine ⟨hS, ?_⟩
              rw [List.nil_append] at hH
              refine r_do 15 rfl (by kernel_rfl) rfl rfl ?_
              refine w_at hF (x_slice_l (E := SgE) Try.underlying59 ty115 (hF.tmp 23 rfl) (hF.tmp 25 rfl) (by omega) (by omega) ((hH.rd 2 rfl)).1) rfl rfl ?_
              clear hF; intro a hF
              clear hS; have hS : SL _ _ := SL.of hH (sub_nil _); refine ⟨hS, ?_⟩
              refine r_do 16 rfl (by kernel_rfl) rfl rfl ?_
              refine w_append 12 2 (xs := (S.take (fnd S n).toNat)) (ys := (S.drop (((fnd S n) + 1).toNat))) hF hH rfl Try.underlying59 ty115 rfl rfl rfl rfl ((Rd.drop ((hH.rd 2 rfl)) (by omega : ((fnd S n) + 1).toNat ≤ S.length))) (by intro k_ hk_; exact .inr hk_) (hF.tmp 19 rfl) (hF.tmp 26 rfl) (by simp only [List.length_drop, List.length_take]; omega) (by simp only [List.length_drop, List.length_take, maxLen]; omega) (fun k => (fun k => (fun _ => False) k ∨ oks k) k ∨ oks k) (fun w' v' h => h) (by rintro k_ (hk_ | hk_); exact .inl hk_; exact .inr hk_) ?_
              clear hF hH; intro a w v27 hF hH
              clear hS; have hS : SL _ _ := SL.of hH (sub_nil _); refine ⟨hS, ?_⟩
              obtain ⟨A27, c27, rfl⟩ := (hH.row 12 rfl).form
              have hb27 : ∀ k, (Value.slice A27 ((S.take (fnd S n).toNat) ++ (S.drop (fnd S n + 1).toNat)).length c27).ownBlock = some k → _ := hH.mine 12 _ rfl
              have hH := hH.freeze 12 rfl (fun k => (fun k => (fun k => (fun _ => False) k ∨ oks k) k ∨ oks k) k ∨ (Value.slice A27 ((S.take (fnd S n).toNat) ++ (S.drop (fnd S n + 1).toNat)).length c27).ownBlock = some k) (fun k => Iff.rfl)
              have hH := hH.subrd 12 rfl 2 (hH.rd 12 rfl) (fun _ h => h)
              refine r_take 17 hF rfl rfl rfl (by kernel_rfl) (by kernel_rfl) (by kernel_rfl) (fun _ _ _ h => h) rfl hS (fun w hS => x_nil (hF.tmp 11 rfl)) rfl ?_; clear hF; intro a hF
              refine r_take 18 hF rfl rfl rfl (by kernel_rfl) (by kernel_rfl) (by kernel_rfl) (fun _ _ _ h => h) rfl hS (fun w hS => x_faddr Try.underlying61 rfl ty59 (by decide) (hF.tmp 28 rfl) rfl) rfl ?_; clear hF; intro a hF
              refine r_do 19 rfl (by kernel_rfl) rfl rfl ?_
              refine w_store 1 hH ty59 rfl (hF.tmp 29 rfl) (hF.tmp 27 rfl) rfl (one1 rfl rfl) (by first | decide | exact Nat.le_of_ble_eq_true rfl) ?_
              clear hH; intro w hH
              clear hS; have hS : SL _ _ := SL.of hH (sub_nil _); refine ⟨hS, ?_⟩
              refine r_end (by kernel_rfl) ?_; clear hS
              refine hK6 _ _ ?_
              refine wp_seq_k fun khK20 hK20 => ?_
              refine wp_region_lit ?_
              refine l_at hF rfl rfl rfl (x_assign rfl) ?_; clear hF; intro a hF
              refine wpList_nil ?_
              refine hK20 _ _ ?_
              refine wp_ret ?_
              try simp only [Exit.then, Exit.inBlock]
              have hE_ := at_of hat.2.2
              have hM_ := (remS_on hat.2.2).resolve_right hc10
              refine fin_ret hF (res1 hF rfl rfl) ⟨Asn.all [(1, .blk bd (.cells #[.slice A27 ((S.take (fnd S n).toNat) ++ (S.drop (fnd S n + 1).toNat)).length c27, .slice Ar rt.length cr] 61 (0, 0))), (2, .rd_ SgE A27 ((S.take (fnd S n).toNat) ++ (S.drop (fnd S n + 1).toNat)) c27 (fun k => (fun k => (fun k => (fun _ => False) k ∨ oks k) k ∨ oks k) k ∨ (Value.slice A27 ((S.take (fnd S n).toNat) ++ (S.drop (fnd S n + 1).toNat)).length c27).ownBlock = some k)), (3, .rd_ (.int .u8) Ar rt cr okr)], by rw [hE_] <;> rfl, by rw [hM_]; exact ⟨_, _, _, _, _, _, rfl⟩, grew_of (hH.sub [(1, .blk bd (.cells #[.slice A27 ((S.take (fnd S n).toNat) ++ (S.drop (fnd S n + 1).toNat)).length c27, .slice Ar rt.length cr] 61 (0, 0))), (2, .rd_ SgE A27 ((S.take (fnd S n).toNat) ++ (S.drop (fnd S n + 1).toNat)) c27 (fun k => (fun k => (fun k => (fun _ => False) k ∨ oks k) k ∨ oks k) k ∨ (Value.slice A27 ((S.take (fnd S n).toNat) ++ (S.drop (fnd S n + 1).toNat)).length c27).ownBlock = some k)), (3, .rd_ (.int .u8) Ar rt cr okr)] (sub_cons (sub_cons (sub_cons (sub_nil _) 3 rfl) 2 rfl) 1 rfl)) (rdin_cons (fun k h => h.elim) (rdin_cons (fun k h => h.elim (fun h => h.elim (fun h => h.elim (fun h => h.elim) (fun h => .inr (.inl ⟨2, _, rfl, h⟩))) (fun h => .inr (.inl ⟨2, _, rfl, h⟩))) (fun h => (hb27 k h).elim .inl (fun h => .inr (.inr (.inr h))))) (rdin_cons (fun k h => .inr (.inl ⟨3, _, rfl, h⟩)) rdin_nil)))⟩
            ·
              refine w_at hF (x_slice_l (E := SgE) Try.underlying59 ty115 (hF.tmp 23 rfl) (hF.tmp 25 rfl) (by omega) (by omega) ((hH.rd 2 rfl)).1) rfl rfl ?_
              clear hF; intro a hF
              clear hS; have hS : SL _ _ := SL.of hH (sub_nil _); refine ⟨hS, ?_⟩
              refine r_do 8 rfl (by kernel_rfl) rfl rfl ?_
              refine w_append 12 2 (xs := ([])) (ys := (S.take ((fnd S n).toNat))) hF hH rfl Try.underlying59 ty115 rfl rfl rfl rfl ((Rd.take ((hH.rd 2 rfl)) ((fnd S n).toNat))) (by intro k_ hk_; exact .inr hk_) (hF.tmp 12 rfl) (hF.tmp 18 rfl) (by simp only [List.length_nil, List.length_take]; omega) (by simp only [List.length_nil, List.length_take, maxLen]; omega) (fun k => (fun _ => False) k ∨ oks k) (fun w' v' h => h) (by rintro k_ (hk_ | hk_); exact .inl hk_; exact .inr hk_) ?_
              clear hF hH; intro a w v19 hF hH
              clear hS; have hS : SL _ _ := SL.of hH (sub_nil _); refine ⟨hS, ?_⟩
              rw [List.nil_append] at hH
              refine r_do 16 rfl (by kernel_rfl) rfl rfl ?_
              refine w_append 12 2 (xs := (S.take (fnd S n).toNat)) (ys := (S.drop (((fnd S n) + 1).toNat))) hF hH rfl Try.underlying59 ty115 rfl rfl rfl rfl ((Rd.drop ((hH.rd 2 rfl)) (by omega : ((fnd S n) + 1).toNat ≤ S.length))) (by intro k_ hk_; exact .inr hk_) (hF.tmp 19 rfl) (hF.tmp 26 rfl) (by simp only [List.length_drop, List.length_take]; omega) (by simp only [List.length_drop, List.length_take, maxLen]; omega) (fun k => (fun k => (fun _ => False) k ∨ oks k) k ∨ oks k) (fun w' v' h => h) (by rintro k_ (hk_ | hk_); exact .inl hk_; exact .inr hk_) ?_
              clear hF hH; intro a w v27 hF hH
              clear hS; have hS : SL _ _ := SL.of hH (sub_nil _); refine ⟨hS, ?_⟩
              obtain ⟨A27, c27, rfl⟩ := (hH.row 12 rfl).form
              have hb27 : ∀ k, (Value.slice A27 ((S.take (fnd S n).toNat) ++ (S.drop (fnd S n + 1).toNat)).length c27).ownBlock = some k → _ := hH.mine 12 _ rfl
              have hH := hH.freeze 12 rfl (fun k => (fun k => (fun k => (fun _ => False) k ∨ oks k) k ∨ oks k) k ∨ (Value.slice A27 ((S.take (fnd S n).toNat) ++ (S.drop (fnd S n + 1).toNat)).length c27).ownBlock = some k) (fun k => Iff.rfl)
              have hH := hH.subrd 12 rfl 2 (hH.rd 12 rfl) (fun _ h => h)
              refine r_take 17 hF rfl rfl rfl (by kernel_rfl) (by kernel_rfl) (by kernel_rfl) (fun _ _ _ h => h) rfl hS (fun w hS => x_nil (hF.tmp 11 rfl)) rfl ?_; clear hF; intro a hF
              refine r_take 18 hF rfl rfl rfl (by kernel_rfl) (by kernel_rfl) (by kernel_rfl) (fun _ _ _ h => h) rfl hS (fun w hS => x_faddr Try.underlying61 rfl ty59 (by decide) (hF.tmp 28 rfl) rfl) rfl ?_; clear hF; intro a hF
              refine r_do 19 rfl (by kernel_rfl) rfl rfl ?_
              refine w_store 1 hH ty59 rfl (hF.tmp 29 rfl) (hF.tmp 27 rfl) rfl (one1 rfl rfl) (by first | decide | exact Nat.le_of_ble_eq_true rfl) ?_
              clear hH; intro w hH
              clear hS; have hS : SL _ _ := SL.of hH (sub_nil _); refine ⟨hS, ?_⟩
              refine r_end (by kernel_rfl) ?_; clear hS
              refine hK6 _ _ ?_
              refine wp_seq_k fun khK21 hK21 => ?_
              refine wp_region_lit ?_
              refine l_at hF rfl rfl rfl (x_assign rfl) ?_; clear hF; intro a hF
              refine wpList_nil ?_
              refine hK21 _ _ ?_
              refine wp_ret ?_
              try simp only [Exit.then, Exit.inBlock]
              have hE_ := at_of hat.2.2
              have hM_ := (remS_on hat.2.2).resolve_right hc10
              refine fin_ret hF (res1 hF rfl rfl) ⟨Asn.all [(1, .blk bd (.cells #[.slice A27 ((S.take (fnd S n).toNat) ++ (S.drop (fnd S n + 1).toNat)).length c27, .slice Ar rt.length cr] 61 (0, 0))), (2, .rd_ SgE A27 ((S.take (fnd S n).toNat) ++ (S.drop (fnd S n + 1).toNat)) c27 (fun k => (fun k => (fun k => (fun _ => False) k ∨ oks k) k ∨ oks k) k ∨ (Value.slice A27 ((S.take (fnd S n).toNat) ++ (S.drop (fnd S n + 1).toNat)).length c27).ownBlock = some k)), (3, .rd_ (.int .u8) Ar rt cr okr)], by rw [hE_] <;> rfl, by rw [hM_]; exact ⟨_, _, _, _, _, _, rfl⟩, grew_of (hH.sub [(1, .blk bd (.cells #[.slice A27 ((S.take (fnd S n).toNat) ++ (S.drop (fnd S n + 1).toNat)).length c27, .slice Ar rt.length cr] 61 (0, 0))), (2, .rd_ SgE A27 ((S.take (fnd S n).toNat) ++ (S.drop (fnd S n + 1).toNat)) c27 (fun k => (fun k => (fun k => (fun _ => False) k ∨ oks k) k ∨ oks k) k ∨ (Value.slice A27 ((S.take (fnd S n).toNat) ++ (S.drop (fnd S n + 1).toNat)).length c27).ownBlock = some k)), (3, .rd_ (.int .u8) Ar rt cr okr)] (sub_cons (sub_cons (sub_cons (sub_nil _) 3 rfl) 2 rfl) 1 rfl)) (rdin_cons (fun k h => h.elim) (rdin_cons (fun k h => h.elim (fun h => h.elim (fun h => h.elim (fun h => h.elim) (fun h => .inr (.inl ⟨2, _, rfl, h⟩))) (fun h => .inr (.inl ⟨2, _, rfl, h⟩))) (fun h => (hb27 k h).elim .inl (fun h => .inr (.inr (.inr h))))) (rdin_cons (fun k h => .inr (.inl ⟨3, _, rfl, h⟩)) rdin_nil)))⟩
          ·
            refine w_at hF (x_slice_l (E := SgE) Try.underlying59 ty115 (hF.tmp 23 rfl) (hF.tmp 25 rfl) (by omega) (by omega) ((hH.rd 2 rfl)).1) rfl rfl ?_
            clear hF; intro a hF
            clear hS; have hS : SL _ _ := SL.of hH (sub_nil _); refine ⟨hS, ?_⟩
            refine r_do 7 rfl (by kernel_rfl) rfl rfl ?_
            refine w_at hF (x_slice_h Try.underlying59 ty115 (hF.tmp 16 rfl) (hF.tmp 17 rfl) (by omega) (by omega) ((hH.rd 2 rfl)).1) rfl rfl ?_
            clear hF; intro a hF
            clear hS; have hS : SL _ _ := SL.of hH (sub_nil _); refine ⟨hS, ?_⟩
            refine r_do 8 rfl (by kernel_rfl) rfl rfl ?_
            refine w_append 12 2 (xs := ([])) (ys := (S.take ((fnd S n).toNat))) hF hH rfl Try.underlying59 ty115 rfl rfl rfl rfl ((Rd.take ((hH.rd 2 rfl)) ((fnd S n).toNat))) (by intro k_ hk_; exact .inr hk_) (hF.tmp 12 rfl) (hF.tmp 18 rfl) (by simp only [List.length_nil, List.length_take]; omega) (by simp only [List.length_nil, List.length_take, maxLen]; omega) (fun k => (fun _ => False) k ∨ oks k) (fun w' v' h => h) (by rintro k_ (hk_ | hk_); exact .inl hk_; exact .inr hk_) ?_
            clear hF hH; intro a w v19 hF hH
            clear hS; have hS : SL _ _ := SL.of hH (sub_nil _); refine ⟨hS, ?_⟩
            rw [List.nil_append] at hH
            refine r_do 16 rfl (by kernel_rfl) rfl rfl ?_
            refine w_append 12 2 (xs := (S.take (fnd S n).toNat)) (ys := (S.drop (((fnd S n) + 1).toNat))) hF hH rfl Try.underlying59 ty115 rfl rfl rfl rfl ((Rd.drop ((hH.rd 2 rfl)) (by omega : ((fnd S n) + 1).toNat ≤ S.length))) (by intro k_ hk_; exact .inr hk_) (hF.tmp 19 rfl) (hF.tmp 26 rfl) (by simp only [List.length_drop, List.length_take]; omega) (by simp only [List.length_drop, List.length_take, maxLen]; omega) (fun k => (fun k => (fun _ => False) k ∨ oks k) k ∨ oks k) (fun w' v' h => h) (by rintro k_ (hk_ | hk_); exact .inl hk_; exact .inr hk_) ?_
            clear hF hH; intro a w v27 hF hH
            clear hS; have hS : SL _ _ := SL.of hH (sub_nil _); refine ⟨hS, ?_⟩
            obtain ⟨A27, c27, rfl⟩ := (hH.row 12 rfl).form
            have hb27 : ∀ k, (Value.slice A27 ((S.take (fnd S n).toNat) ++ (S.drop (fnd S n + 1).toNat)).length c27).ownBlock = some k → _ := hH.mine 12 _ rfl
            have hH := hH.freeze 12 rfl (fun k => (fun k => (fun k => (fun _ => False) k ∨ oks k) k ∨ oks k) k ∨ (Value.slice A27 ((S.take (fnd S n).toNat) ++ (S.drop (fnd S n + 1).toNat)).length c27).ownBlock = some k) (fun k => Iff.rfl)
            have hH := hH.subrd 12 rfl 2 (hH.rd 12 rfl) (fun _ h => h)
            refine r_take 17 hF rfl rfl rfl (by kernel_rfl) (by kernel_rfl) (by kernel_rfl) (fun _ _ _ h => h) rfl hS (fun w hS => x_nil (hF.tmp 11 rfl)) rfl ?_; clear hF; intro a hF
            refine r_take 18 hF rfl rfl rfl (by kernel_rfl) (by kernel_rfl) (by kernel_rfl) (fun _ _ _ h => h) rfl hS (fun w hS => x_faddr Try.underlying61 rfl ty59 (by decide) (hF.tmp 28 rfl) rfl) rfl ?_; clear hF; intro a hF
            refine r_do 19 rfl (by kernel_rfl) rfl rfl ?_
            refine w_store 1 hH ty59 rfl (hF.tmp 29 rfl) (hF.tmp 27 rfl) rfl (one1 rfl rfl) (by first | decide | exact Nat.le_of_ble_eq_true rfl) ?_
            clear hH; intro w hH
            clear hS; have hS : SL _ _ := SL.of hH (sub_nil _); refine ⟨hS, ?_⟩
            refine r_end (by kernel_rfl) ?_; clear hS
            refine hK6 _ _ ?_
            refine wp_seq_k fun khK22 hK22 => ?_
            refine wp_region_lit ?_
            refine l_at hF rfl rfl rfl (x_assign rfl) ?_; clear hF; intro a hF
            refine wpList_nil ?_
            refine hK22 _ _ ?_
            refine wp_ret ?_
            try simp only [Exit.then, Exit.inBlock]
            have hE_ := at_of hat.2.2
            have hM_ := (remS_on hat.2.2).resolve_right hc10
            refine fin_ret hF (res1 hF rfl rfl) ⟨Asn.all [(1, .blk bd (.cells #[.slice A27 ((S.take (fnd S n).toNat) ++ (S.drop (fnd S n + 1).toNat)).length c27, .slice Ar rt.length cr] 61 (0, 0))), (2, .rd_ SgE A27 ((S.take (fnd S n).toNat) ++ (S.drop (fnd S n + 1).toNat)) c27 (fun k => (fun k => (fun k => (fun _ => False) k ∨ oks k) k ∨ oks k) k ∨ (Value.slice A27 ((S.take (fnd S n).toNat) ++ (S.drop (fnd S n + 1).toNat)).length c27).ownBlock = some k)), (3, .rd_ (.int .u8) Ar rt cr okr)], by rw [hE_] <;> rfl, by rw [hM_]; exact ⟨_, _, _, _, _, _, rfl⟩, grew_of (hH.sub [(1, .blk bd (.cells #[.slice A27 ((S.take (fnd S n).toNat) ++ (S.drop (fnd S n + 1).toNat)).length c27, .slice Ar rt.length cr] 61 (0, 0))), (2, .rd_ SgE A27 ((S.take (fnd S n).toNat) ++ (S.drop (fnd S n + 1).toNat)) c27 (fun k => (fun k => (fun k => (fun _ => False) k ∨ oks k) k ∨ oks k) k ∨ (Value.slice A27 ((S.take (fnd S n).toNat) ++ (S.drop (fnd S n + 1).toNat)).length c27).ownBlock = some k)), (3, .rd_ (.int .u8) Ar rt cr okr)] (sub_cons (sub_cons (sub_cons (sub_nil _) 3 rfl) 2 rfl) 1 rfl)) (rdin_cons (fun k h => h.elim) (rdin_cons (fun k h => h.elim (fun h => h.elim (fun h => h.elim (fun h => h.elim) (fun h => .inr (.inl ⟨2, _, rfl, h⟩))) (fun h => .inr (.inl ⟨2, _, rfl, h⟩))) (fun h => (hb27 k h).elim .inl (fun h => .inr (.inr (.inr h))))) (rdin_cons (fun k h => .inr (.inl ⟨3, _, rfl, h⟩)) rdin_nil)))⟩
      ·
        refine w_at hF (x_slice_h Try.underlying59 ty115 (hF.tmp 16 rfl) (hF.tmp 17 rfl) (by omega) (by omega) ((hH.rd 2 rfl)).1) rfl rfl ?_
        clear hF; intro a hF
        clear hS; have hS : SL _ _ := SL.of hH (sub_nil _); refine ⟨hS, ?_⟩
        refine r_do2 1 12 rfl rfl (by kernel_rfl) rfl rfl rfl rfl ?_ ?_
        ·
          refine w_lit0 SgE 12 hF hH rfl Try.underlying59 ty115 ?_
          clear hF hH; intro a w b12 hF hH
          clear hS; have hS : SL _ _ := SL.of hH (sub_nil _); refine ⟨hS, ?_⟩
          refine r_do2 8 12 rfl rfl (by kernel_rfl) rfl rfl rfl rfl ?_ ?_
          ·
            refine w_append 12 2 (xs := ([])) (ys := (S.take ((fnd S n).toNat))) hF hH rfl Try.underlying59 ty115 rfl rfl rfl rfl ((Rd.take ((hH.rd 2 rfl)) ((fnd S n).toNat))) (by intro k_ hk_; exact .inr hk_) (hF.tmp 12 rfl) (hF.tmp 18 rfl) (by simp only [List.length_nil, List.length_take]; omega) (by simp only [List.length_nil, List.length_take, maxLen]; omega) (fun k => (fun _ => False) k ∨ oks k) (fun w' v' h => h) (by rintro k_ (hk_ | hk_); exact .inl hk_; exact .inr hk_) ?_
            clear hF hH; intro a w v19 hF hH
            clear hS; have hS : SL _ _ := SL.of hH (sub_nil _); refine ⟨hS, ?_⟩
            rw [List.nil_append] at hH
            refine r_do 12 rfl (by kernel_rfl) rfl rfl ?_
            refine w_at hF (x_load1 ty59 (hF.tmp 22 rfl) (blk_cell (hH.at 1 rfl) 0 rfl)) rfl rfl ?_
            clear hF; intro a hF
            clear hS; have hS : SL _ _ := SL.of hH (sub_nil _); refine ⟨hS, ?_⟩
            refine r_do 15 rfl (by kernel_rfl) rfl rfl ?_
            refine w_at hF (x_slice_l (E := SgE) Try.underlying59 ty115 (hF.tmp 23 rfl) (hF.tmp 25 rfl) (by omega) (by omega) ((hH.rd 2 rfl)).1) rfl rfl ?_
            clear hF; intro a hF
            clear hS; have hS : SL _ _ := SL.of hH (sub_nil _); refine ⟨hS, ?_⟩
            refine r_do 16 rfl (by kernel_rfl) rfl rfl ?_
            refine w_append 12 2 (xs := (S.take (fnd S n).toNat)) (ys := (S.drop (((fnd S n) + 1).toNat))) hF hH rfl Try.underlying59 ty115 rfl rfl rfl rfl ((Rd.drop ((hH.rd 2 rfl)) (by omega : ((fnd S n) + 1).toNat ≤ S.length))) (by intro k_ hk_; exact .inr hk_) (hF.tmp 19 rfl) (hF.tmp 26 rfl) (by simp only [List.length_drop, List.length_take]; omega) (by simp only [List.length_drop, List.length_take, maxLen]; omega) (fun k => (fun k => (fun _ => False) k ∨ oks k) k ∨ oks k) (fun w' v' h => h) (by rintro k_ (hk_ | hk_); exact .inl hk_; exact .inr hk_) ?_
            clear hF hH; intro a w v27 hF hH
            clear hS; have hS : SL _ _ := SL.of hH (sub_nil _); refine ⟨hS, ?_⟩
            obtain ⟨A27, c27, rfl⟩ := (hH.row 12 rfl).form
            have hb27 : ∀ k, (Value.slice A27 ((S.take (fnd S n).toNat) ++ (S.drop (fnd S n + 1).toNat)).length c27).ownBlock = some k → _ := hH.mine 12 _ rfl
            have hH := hH.freeze 12 rfl (fun k => (fun k => (fun k => (fun _ => False) k ∨ oks k) k ∨ oks k) k ∨ (Value.slice A27 ((S.take (fnd S n).toNat) ++ (S.drop (fnd S n + 1).toNat)).length c27).ownBlock = some k) (fun k => Iff.rfl)
            have hH := hH.subrd 12 rfl 2 (hH.rd 12 rfl) (fun _ h => h)
            refine r_take 17 hF rfl rfl rfl (by kernel_rfl) (by kernel_rfl) (by kernel_rfl) (fun _ _ _ h => h) rfl hS (fun w hS => x_nil (hF.tmp 11 rfl)) rfl ?_; clear hF; intro a hF
            refine r_take 18 hF rfl rfl rfl (by kernel_rfl) (by kernel_rfl) (by kernel_rfl) (fun _ _ _ h => h) rfl hS (fun w hS => x_faddr Try.underlying61 rfl ty59 (by decide) (hF.tmp 28 rfl) rfl) rfl ?_; clear hF; intro a hF
            refine r_do 19 rfl (by kernel_rfl) rfl rfl ?_
            refine w_store 1 hH ty59 rfl (hF.tmp 29 rfl) (hF.tmp 27 rfl) rfl (one1 rfl rfl) (by first | decide | exact Nat.le_of_ble_eq_true rfl) ?_
            clear hH; intro w hH
            clear hS; have hS : SL _ _ := SL.of hH (sub_nil _); refine ⟨hS, ?_⟩
            refine r_end (by kernel_rfl) ?_; clear hS
            refine hK6 _ _ ?_
            refine wp_seq_k fun khK23 hK23 => ?_
            refine wp_region_lit ?_
            refine l_at hF rfl rfl rfl (x_assign rfl) ?_; clear hF; intro a hF
            refine wpList_nil ?_
            refine hK23 _ _ ?_
            refine wp_ret ?_
            try simp only [Exit.then, Exit.inBlock]
            have hE_ := at_of hat.2.2
            have hM_ := (remS_on hat.2.2).resolve_right hc10
            refine fin_ret hF (res1 hF rfl rfl) ⟨Asn.all [(1, .blk bd (.cells #[.slice A27 ((S.take (fnd S n).toNat) ++ (S.drop (fnd S n + 1).toNat)).length c27, .slice Ar rt.length cr] 61 (0, 0))), (2, .rd_ SgE A27 ((S.take (fnd S n).toNat) ++ (S.drop (fnd S n + 1).toNat)) c27 (fun k => (fun k => (fun k => (fun _ => False) k ∨ oks k) k ∨ oks k) k ∨ (Value.slice A27 ((S.take (fnd S n).toNat) ++ (S.drop (fnd S n + 1).toNat)).length c27).ownBlock = some k)), (3, .rd_ (.int .u8) Ar rt cr okr)], by rw [hE_] <;> rfl, by rw [hM_]; exact ⟨_, _, _, _, _, _, rfl⟩, grew_of (hH.sub [(1, .blk bd (.cells #[.slice A27 ((S.take (fnd S n).toNat) ++ (S.drop (fnd S n + 1).toNat)).length c27, .slice Ar rt.length cr] 61 (0, 0))), (2, .rd_ SgE A27 ((S.take (fnd S n).toNat) ++ (S.drop (fnd S n + 1).toNat)) c27 (fun k => (fun k => (fun k => (fun _ => False) k ∨ oks k) k ∨ oks k) k ∨ (Value.slice A27 ((S.take (fnd S n).toNat) ++ (S.drop (fnd S n + 1).toNat)).length c27).ownBlock = some k)), (3, .rd_ (.int .u8) Ar rt cr okr)] (sub_cons (sub_cons (sub_cons (sub_nil _) 3 rfl) 2 rfl) 1 rfl)) (rdin_cons (fun k h => h.elim) (rdin_cons (fun k h => h.elim (fun h => h.elim (fun h => h.elim (fun h => h.elim) (fun h => .inr (.inl ⟨2, _, rfl, h⟩))) (fun h => .inr (.inl ⟨2, _, rfl, h⟩))) (fun h => (hb27 k h).elim .inl (fun h => .inr (.inr (.inr h))))) (rdin_cons (fun k h => .inr (.inl ⟨3, _, rfl, h⟩)) rdin_nil)))⟩
          ·
            refine w_at hF (x_load1 ty59 (hF.tmp 22 rfl) (blk_cell (hH.at 1 rfl) 0 rfl)) rfl rfl ?_
            clear hF; intro a hF
            clear hS; have hS : SL _ _ := SL.of hH (sub_nil _); refine ⟨hS, ?_⟩
            refine r_do2 8 15 rfl rfl (by kernel_rfl) rfl rfl rfl rfl ?_ ?_
            ·
              refine w_append 12 2 (xs := ([])) (ys := (S.take ((fnd S n).toNat))) hF hH rfl Try.underlying59 ty115 rfl rfl rfl rfl ((Rd.take ((hH.rd 2 rfl)) ((fnd S n).toNat))) (by intro k_ hk_; exact .inr hk_) (hF.tmp 12 rfl) (hF.tmp 18 rfl) (by simp only [List.length_nil, List.length_take]; omega) (by simp only [List.length_nil, List.length_take, maxLen]; omega) (fun k => (fun _ => False) k ∨ oks k) (fun w' v' h => h) (by rintro k_ (hk_ | hk_); exact .inl hk_; exact .inr hk_) ?_
              clear hF hH; intro a w v19 hF hH
              clear hS; have hS : SL _ _ := SL.of hH (sub_nil _); refine ⟨hS, ?_⟩
              rw [List.nil_append] at hH
              refine r_do 15 rfl (by kernel_rfl) rfl rfl ?_
              refine w_at hF (x_slice_l (E := SgE) Try.underlying59 ty115 (hF.tmp 23 rfl) (hF.tmp 25 rfl) (by omega) (by omega) ((hH.rd 2 rfl)).1) rfl rfl ?_
              clear hF; intro a hF
              clear hS; have hS : SL _ _ := SL.of hH (sub_nil _); refine ⟨hS, ?_⟩
              refine r_do 16 rfl (by kernel_rfl) rfl rfl ?_
              refine w_append 12 2 (xs := (S.take (fnd S n).toNat)) (ys := (S.drop (((fnd S n) + 1).toNat))) hF hH rfl Try.underlying59 ty115 rfl rfl rfl rfl ((Rd.drop ((hH.rd 2 rfl)) (by omega : ((fnd S n) + 1).toNat ≤ S.length))) (by intro k_ hk_; exact .inr hk_) (hF.tmp 19 rfl) (hF.tmp 26 rfl) (by simp only [List.length_drop, List.length_take]; omega) (by simp only [List.length_drop, List.length_take, maxLen]; omega) (fun k => (fun k => (fun _ => False) k ∨ oks k) k ∨ oks k) (fun w' v' h => h) (by rintro k_ (hk_ | hk_); exact .inl hk_; exact .inr hk_) ?_
              clear hF hH; intro a w v27 hF hH
              clear hS; have hS : SL _ _ := SL.of hH (sub_nil _); refine ⟨hS, ?_⟩
              obtain ⟨A27, c27, rfl⟩ := (hH.row 12 rfl).form
              have hb27 : ∀ k, (Value.slice A27 ((S.take (fnd S n).toNat) ++ (S.drop (fnd S n + 1).toNat)).length c27).ownBlock = some k → _ := hH.mine 12 _ rfl
              have hH := hH.freeze 12 rfl (fun k => (fun k => (fun k => (fun _ => False) k ∨ oks k) k ∨ oks k) k ∨ (Value.slice A27 ((S.take (fnd S n).toNat) ++ (S.drop (fnd S n + 1).toNat)).length c27).ownBlock = some k) (fun k => Iff.rfl)
              have hH := hH.subrd 12 rfl 2 (hH.rd 12 rfl) (fun _ h => h)
              refine r_take 17 hF rfl rfl rfl (by kernel_rfl) (by kernel_rfl) (by kernel_rfl) (fun _ _ _ h => h) rfl hS (fun w hS => x_nil (hF.tmp 11 rfl)) rfl ?_; clear hF; intro a hF
              refine r_take 18 hF rfl rfl rfl (by kernel_rfl) (by kernel_rfl) (by kernel_rfl) (fun _ _ _ h => h) rfl hS (fun w hS => x_faddr Try.underlying61 rfl ty59 (by decide) (hF.tmp 28 rfl) rfl) rfl ?_; clear hF; intro a hF
              refine r_do 19 rfl (by kernel_rfl) rfl rfl ?_
              refine w_store 1 hH ty59 rfl (hF.tmp 29 rfl) (hF.tmp 27 rfl) rfl (one1 rfl rfl) (by first | decide | exact Nat.le_of_ble_eq_true rfl) ?_
              clear hH; intro w hH
              clear hS; have hS : SL _ _ := SL.of hH (sub_nil _); refine ⟨hS, ?_⟩
              refine r_end (by kernel_rfl) ?_; clear hS
              refine hK6 _ _ ?_
              refine wp_seq_k fun khK24 hK24 => ?_
              refine wp_region_lit ?_
              refine l_at hF rfl rfl rfl (x_assign rfl) ?_; clear hF; intro a hF
              refine wpList_nil ?_
              refine hK24 _ _ ?_
              refine wp_ret ?_
              try simp only [Exit.then, Exit.inBlock]
              have hE_ := at_of hat.2.2
              have hM_ := (remS_on hat.2.2).resolve_right hc10
              refine fin_ret hF (res1 hF rfl rfl) ⟨Asn.all [(1, .blk bd (.cells #[.slice A27 ((S.take (fnd S n).toNat) ++ (S.drop (fnd S n + 1).toNat)).length c27, .slice Ar rt.length cr] 61 (0, 0))), (2, .rd_ SgE A27 ((S.take (fnd S n).toNat) ++ (S.drop (fnd S n + 1).toNat)) c27 (fun k => (fun k => (fun k => (fun _ => False) k ∨ oks k) k ∨ oks k) k ∨ (Value.slice A27 ((S.take (fnd S n).toNat) ++ (S.drop (fnd S n + 1).toNat)).length c27).ownBlock = some k)), (3, .rd_ (.int .u8) Ar rt cr okr)], by rw [hE_] <;> rfl, by rw [hM_]; exact ⟨_, _, _, _, _, _, rfl⟩, grew_of (hH.sub [(1, .blk bd (.cells #[.slice A27 ((S.take (fnd S n).toNat) ++ (S.drop (fnd S n + 1).toNat)).length c27, .slice Ar rt.length cr] 61 (0, 0))), (2, .rd_ SgE A27 ((S.take (fnd S n).toNat) ++ (S.drop (fnd S n + 1).toNat)) c27 (fun k => (fun k => (fun k => (fun _ => False) k ∨ oks k) k ∨ oks k) k ∨ (Value.slice A27 ((S.take (fnd S n).toNat) ++ (S.drop (fnd S n + 1).toNat)).length c27).ownBlock = some k)), (3, .rd_ (.int .u8) Ar rt cr okr)] (sub_cons (sub_cons (sub_cons (sub_nil _) 3 rfl) 2 rfl) 1 rfl)) (rdin_cons (fun k h => h.elim) (rdin_cons (fun k h => h.elim (fun h => h.elim (fun h => h.elim (fun h => h.elim) (fun h => .inr (.inl ⟨2, _, rfl, h⟩))) (fun h => .inr (.inl ⟨2, _, rfl, h⟩))) (fun h => (hb27 k h).elim .inl (fun h => .inr (.inr (.inr h))))) (rdin_cons (fun k h => .inr (.inl ⟨3, _, rfl, h⟩)) rdin_nil)))⟩
            ·
              refine w_at hF (x_slice_l (E := SgE) Try.underlying59 ty115 (hF.tmp 23 rfl) (hF.tmp 25 rfl) (by omega) (by omega) ((hH.rd 2 rfl)).1) rfl rfl ?_
              clear hF; intro a hF
              clear hS; have hS : SL _ _ := SL.of hH (sub_nil _); refine ⟨hS, ?_⟩
              refine r_do 8 rfl (by kernel_rfl) rfl rfl ?_
              refine w_append 12 2 (xs := ([])) (ys := (S.take ((fnd S n).toNat))) hF hH rfl Try.underlying59 ty115 rfl rfl rfl rfl ((Rd.take ((hH.rd 2 rfl)) ((fnd S n).toNat))) (by intro k_ hk_; exact .inr hk_) (hF.tmp 12 rfl) (hF.tmp 18 rfl) (by simp only [List.length_nil, List.length_take]; omega) (by simp only [List.length_nil, List.length_take, maxLen]; omega) (fun k => (fun _ => False) k ∨ oks k) (fun w' v' h => h) (by rintro k_ (hk_ | hk_); exact .inl hk_; exact .inr hk_) ?_
              clear hF hH; intro a w v19 hF hH
              clear hS; have hS : SL _ _ := SL.of hH (sub_nil _); refine ⟨hS, ?_⟩
              rw [List.nil_append] at hH
              refine r_do 16 rfl (by kernel_rfl) rfl rfl ?_
              refine w_append 12 2 (xs := (S.take (fnd S n).toNat)) (ys := (S.drop (((fnd S n) + 1).toNat))) hF hH rfl Try.underlying59 ty115 rfl rfl rfl rfl ((Rd.drop ((hH.rd 2 rfl)) (by omega : ((fnd S n) + 1).toNat ≤ S.length))) (by intro k_ hk_; exact .inr hk_) (hF.tmp 19 rfl) (hF.tmp 26 rfl) (by simp only [List.length_drop, List.length_take]; omega) (by simp only [List.length_drop, List.length_take, maxLen]; omega) (fun k => (fun k => (fun _ => False) k ∨ oks k) k ∨ oks k) (fun w' v' h => h) (by rintro k_ (hk_ | hk_); exact .inl hk_; exact .inr hk_) ?_
              clear hF hH; intro a w v27 hF hH
              clear hS; have hS : SL _ _ := SL.of hH (sub_nil _); refine ⟨hS, ?_⟩
              obtain ⟨A27, c27, rfl⟩ := (hH.row 12 rfl).form
              have hb27 : ∀ k, (Value.slice A27 ((S.take (fnd S n).toNat) ++ (S.drop (fnd S n + 1).toNat)).length c27).ownBlock = some k → _ := hH.mine 12 _ rfl
              have hH := hH.freeze 12 rfl (fun k => (fun k => (fun k => (fun _ => False) k ∨ oks k) k ∨ oks k) k ∨ (Value.slice A27 ((S.take (fnd S n).toNat) ++ (S.drop (fnd S n + 1).toNat)).length c27).ownBlock = some k) (fun k => Iff.rfl)
              have hH := hH.subrd 12 rfl 2 (hH.rd 12 rfl) (fun _ h => h)
              refine r_take 17 hF rfl rfl rfl (by kernel_rfl) (by kernel_rfl) (by kernel_rfl) (fun _ _ _ h => h) rfl hS (fun w hS => x_nil (hF.tmp 11 rfl)) rfl ?_; clear hF; intro a hF
              refine r_take 18 hF rfl rfl rfl (by kernel_rfl) (by kernel_rfl) (by kernel_rfl) (fun _ _ _ h => h) rfl hS (fun w hS => x_faddr Try.underlying61 rfl ty59 (by decide) (hF.tmp 28 rfl) rfl) rfl ?_; clear hF; intro a hF
              refine r_do 19 rfl (by kernel_rfl) rfl rfl ?_
              refine w_store 1 hH ty59 rfl (hF.tmp 29 rfl) (hF.tmp 27 rfl) rfl (one1 rfl rfl) (by first | decide | exact Nat.le_of_ble_eq_true rfl) ?_
              clear hH; intro w hH
              clear hS; have hS : SL _ _ := SL.of hH (sub_nil _); refine ⟨hS, ?_⟩
              refine r_end (by kernel_rfl) ?_; clear hS
              refine hK6 _ _ ?_
              refine wp_seq_k fun khK25 hK25 => ?_
              refine wp_region_lit ?_
              refine l_at hF rfl rfl rfl (x_assign rfl) ?_; clear hF; intro a hF
              refine wpList_nil ?_
              refine hK25 _ _ ?_
              refine wp_ret ?_
              try simp only [Exit.then, Exit.inBlock]
              have hE_ := at_of hat.2.2
              have hM_ := (remS_on hat.2.2).resolve_right hc10
              refine fin_ret hF (res1 hF rfl rfl) ⟨Asn.all [(1, .blk bd (.cells #[.slice A27 ((S.take (fnd S n).toNat) ++ (S.drop (fnd S n + 1).toNat)).length c27, .slice Ar rt.length cr] 61 (0, 0))), (2, .rd_ SgE A27 ((S.take (fnd S n).toNat) ++ (S.drop (fnd S n + 1).toNat)) c27 (fun k => (fun k => (fun k => (fun _ => False) k ∨ oks k) k ∨ oks k) k ∨ (Value.slice A27 ((S.take (fnd S n).toNat) ++ (S.drop (fnd S n + 1).toNat)).length c27).ownBlock = some k)), (3, .rd_ (.int .u8) Ar rt cr okr)], by rw [hE_] <;> rfl, by rw [hM_]; exact ⟨_, _, _, _, _, _, rfl⟩, grew_of (hH.sub [(1, .blk bd (.cells #[.slice A27 ((S.take (fnd S n).toNat) ++ (S.drop (fnd S n + 1).toNat)).length c27, .slice Ar rt.length cr] 61 (0, 0))), (2, .rd_ SgE A27 ((S.take (fnd S n).toNat) ++ (S.drop (fnd S n + 1).toNat)) c27 (fun k => (fun k => (fun k => (fun _ => False) k ∨ oks k) k ∨ oks k) k ∨ (Value.slice A27 ((S.take (fnd S n).toNat) ++ (S.drop (fnd S n + 1).toNat)).length c27).ownBlock = some k)), (3, .rd_ (.int .u8) Ar rt cr okr)] (sub_cons (sub_cons (sub_cons (sub_nil _) 3 rfl) 2 rfl) 1 rfl)) (rdin_cons (fun k h => h.elim) (rdin_cons (fun k h => h.elim (fun h => h.elim (fun h => h.elim (fun h => h.elim) (fun h => .inr (.inl ⟨2, _, rfl, h⟩))) (fun h => .inr (.inl ⟨2, _, rfl, h⟩))) (fun h => (hb27 k h).elim .inl (fun h => .inr (.inr (.inr h))))) (rdin_cons (fun k h => .inr (.inl ⟨3, _, rfl, h⟩)) rdin_nil)))⟩
        ·
          refine w_at hF (x_load1 ty59 (hF.tmp 22 rfl) (blk_cell (hH.at 1 rfl) 0 rfl)) rfl rfl ?_
          clear hF; intro a hF
          clear hS; have hS : SL _ _ := SL.of hH (sub_nil _); refine ⟨hS, ?_⟩
          refine r_do2 1 15 rfl rfl (by kernel_rfl) rfl rfl rfl rfl ?_ ?_
          ·
            refine w_lit0 SgE 12 hF hH rfl Try.underlying59 ty115 ?_
            clear hF hH; intro a w b12 hF hH
            clear hS; have hS : SL _ _ := SL.of hH (sub_nil _); refine ⟨hS, ?_⟩
            refine r_do2 8 15 rfl rfl (by kernel_rfl) rfl rfl rfl rfl ?_ ?_
            ·
              refine w_append 12 2 (xs := ([])) (ys := (S.take ((fnd S n).toNat))) hF hH rfl Try.underlying59 ty115 rfl rfl rfl rfl ((Rd.take ((hH.rd 2 rfl)) ((fnd S n).toNat))) (by intro k_ hk_; exact .inr hk_) (hF.tmp 12 rfl) (hF.tmp 18 rfl) (by simp only [List.length_nil, List.length_take]; omega) (by simp only [List.length_nil, List.length_take, maxLen]; omega) (fun k => (fun _ => False) k ∨ oks k) (fun w' v' h => h) (by rintro k_ (hk_ | hk_); exact .inl hk_; exact .inr hk_) ?_
              clear hF hH; intro a w v19 hF hH
              clear hS; have hS : SL _ _ := SL.of hH (sub_nil _); refine ⟨hS, ?_⟩
              rw [List.nil_append] at hH
              refine r_do 15 rfl (by kernel_rfl) rfl rfl ?_
              refine w_at hF (x_slice_l (E := SgE) Try.underlying59 ty115 (hF.tmp 23 rfl) (hF.tmp 25 rfl) (by omega) (by omega) ((hH.rd 2 rfl)).1) rfl rfl ?_
              clear hF; intro a hF
              clear hS; have hS : SL _ _ := SL.of hH (sub_nil _); refine ⟨hS, ?_⟩
              refine r_do 16 rfl (by kernel_rfl) rfl rfl ?_
              refine w_append 12 2 (xs := (S.take (fnd S n).toNat)) (ys := (S.drop (((fnd S n) + 1).toNat))) hF hH rfl Try.underlying59 ty115 rfl rfl rfl rfl ((Rd.drop ((hH.rd 2 rfl)) (by omega : ((fnd S n) + 1).toNat ≤ S.length))) (by intro k_ hk_; exact .inr hk_) (hF.tmp 19 rfl) (hF.tmp 26 rfl) (by simp only [List.length_drop, List.length_take]; omega) (by simp only [List.length_drop, List.length_take, maxLen]; omega) (fun k => (fun k => (fun _ => False) k ∨ oks k) k ∨ oks k) (fun w' v' h => h) (by rintro k_ (hk_ | hk_); exact .inl hk_; exact .inr hk_) ?_
              clear hF hH; intro a w v27 hF hH
              clear hS; have hS : SL _ _ := SL.of hH (sub_nil _); refine ⟨hS, ?_⟩
              obtain ⟨A27, c27, rfl⟩ := (hH.row 12 rfl).form
              have hb27 : ∀ k, (Value.slice A27 ((S.take (fnd S n).toNat) ++ (S.drop (fnd S n + 1).toNat)).length c27).ownBlock = some k → _ := hH.mine 12 _ rfl
              have hH := hH.freeze 12 rfl (fun k => (fun k => (fun k => (fun _ => False) k ∨ oks k) k ∨ oks k) k ∨ (Value.slice A27 ((S.take (fnd S n).toNat) ++ (S.drop (fnd S n + 1).toNat)).length c27).ownBlock = some k) (fun k => Iff.rfl)
              have hH := hH.subrd 12 rfl 2 (hH.rd 12 rfl) (fun _ h => h)
              refine r_take 17 hF rfl rfl rfl (by kernel_rfl) (by kernel_rfl) (by kernel_rfl) (fun _ _ _ h => h) rfl hS (fun w hS => x_nil (hF.tmp 11 rfl)) rfl ?_; clear hF; intro a hF
              refine r_take 18 hF rfl rfl rfl (by kernel_rfl) (by kernel_rfl) (by kernel_rfl) (fun _ _ _ h => h) rfl hS (fun w hS => x_faddr Try.underlying61 rfl ty59 (by decide) (hF.tmp 28 rfl) rfl) rfl ?_; clear hF; intro a hF
              refine r_do 19 rfl (by kernel_rfl) rfl rfl ?_
              refine w_store 1 hH ty59 rfl (hF.tmp 29 rfl) (hF.tmp 27 rfl) rfl (one1 rfl rfl) (by first | decide | exact Nat.le_of_ble_eq_true rfl) ?_
              clear hH; intro w hH
              clear hS; have hS : SL _ _ := SL.of hH (sub_nil _); refine ⟨hS, ?_⟩
              refine r_end (by kernel_rfl) ?_; clear hS
              refine hK6 _ _ ?_
              refine wp_seq_k fun khK26 hK26 => ?_
              refine wp_region_lit ?_
              refine l_at hF rfl rfl rfl (x_assign rfl) ?_; clear hF; intro a hF
              refine wpList_nil ?_
              refine hK26 _ _ ?_
              refine wp_ret ?_
              try simp only [Exit.then, Exit.inBlock]
              have hE_ := at_of hat.2.2
              have hM_ := (remS_on hat.2.2).resolve_right hc10
              refine fin_ret hF (res1 hF rfl rfl) ⟨Asn.all [(1, .blk bd (.cells #[.slice A27 ((S.take (fnd S n).toNat) ++ (S.drop (fnd S n + 1).toNat)).length c27, .slice Ar rt.length cr] 61 (0, 0))), (2, .rd_ SgE A27 ((S.take (fnd S n).toNat) ++ (S.drop (fnd S n + 1).toNat)) c27 (fun k => (fun k => (fun k => (fun _ => False) k ∨ oks k) k ∨ oks k) k ∨ (Value.slice A27 ((S.take (fnd S n).toNat) ++ (S.drop (fnd S n + 1).toNat)).length c27).ownBlock = some k)), (3, .rd_ (.int .u8) Ar rt cr okr)], by rw [hE_] <;> rfl, by rw [hM_]; exact ⟨_, _, _, _, _, _, rfl⟩, grew_of (hH.sub [(1, .blk bd (.cells #[.slice A27 ((S.take (fnd S n).toNat) ++ (S.drop (fnd S n + 1).toNat)).length c27, .slice Ar rt.length cr] 61 (0, 0))), (2, .rd_ SgE A27 ((S.take (fnd S n).toNat) ++ (S.drop (fnd S n + 1).toNat)) c27 (fun k => (fun k => (fun k => (fun _ => False) k ∨ oks k) k ∨ oks k) k ∨ (Value.slice A27 ((S.take (fnd S n).toNat) ++ (S.drop (fnd S n + 1).toNat)).length c27).ownBlock = some k)), (3, .rd_ (.int .u8) Ar rt cr okr)] (sub_cons (sub_cons (sub_cons (sub_nil _) 3 rfl) 2 rfl) 1 rfl)) (rdin_cons (fun k h => h.elim) (rdin_cons (fun k h => h.elim (fun h => h.elim (fun h => h.elim (fun h => h.elim) (fun h => .inr (.inl ⟨2, _, rfl, h⟩))) (fun h => .inr (.inl ⟨2, _, rfl, h⟩))) (fun h => (hb27 k h).elim .inl (fun h => .inr (.inr (.inr h))))) (rdin_cons (fun k h => .inr (.inl ⟨3, _, rfl, h⟩)) rdin_nil)))⟩
            ·
              refine w_at hF (x_slice_l (E := SgE) Try.underlying59 ty115 (hF.tmp 23 rfl) (hF.tmp 25 rfl) (by omega) (by omega) ((hH.rd 2 rfl)).1) rfl rfl ?_
              clear hF; intro a hF
              clear hS; have hS : SL _ _ := SL.of hH (sub_nil _); refine ⟨hS, ?_⟩
              refine r_do 8 rfl (by kernel_rfl) rfl rfl ?_
              refine w_append 12 2 (xs := ([])) (ys := (S.take ((fnd S n).toNat))) hF hH rfl Try.underlying59 ty115 rfl rfl rfl rfl ((Rd.take ((hH.rd 2 rfl)) ((fnd S n).toNat))) (by intro k_ hk_; exact .inr hk_) (hF.tmp 12 rfl) (hF.tmp 18 rfl) (by simp only [List.length_nil, List.length_take]; omega) (by simp only [List.length_nil, List.length_take, maxLen]; omega) (fun k => (fun _ => False) k ∨ oks k) (fun w' v' h => h) (by rintro k_ (hk_ | hk_); exact .inl hk_; exact .inr hk_) ?_
              clear hF hH; intro a w v19 hF hH
              clear hS; have hS : SL _ _ := SL.of hH (sub_nil _); refine ⟨hS, ?_⟩
              rw [List.nil_append] at hH
              refine r_do 16 rfl (by kernel_rfl) rfl rfl ?_
              refine w_append 12 2 (xs := (S.take (fnd S n).toNat)) (ys := (S.drop (((fnd S n) + 1).toNat))) hF hH rfl Try.underlying59 ty115 rfl rfl rfl rfl ((Rd.drop ((hH.rd 2 rfl)) (by omega : ((fnd S n) + 1).toNat ≤ S.length))) (by intro k_ hk_; exact .inr hk_) (hF.tmp 19 rfl) (hF.tmp 26 rfl) (by simp only [List.length_drop, List.length_take]; omega) (by simp only [List.length_drop, List.length_take, maxLen]; omega) (fun k => (fun k => (fun _ => False) k ∨ oks k) k ∨ oks k) (fun w' v' h => h) (by rintro k_ (hk_ | hk_); exact .inl hk_; exact .inr hk_) ?_
              clear hF hH; intro a w v27 hF hH
              clear hS; have hS : SL _ _ := SL.of hH (sub_nil _); refine ⟨hS, ?_⟩
              obtain ⟨A27, c27, rfl⟩ := (hH.row 12 rfl).form
              have hb27 : ∀ k, (Value.slice A27 ((S.take (fnd S n).toNat) ++ (S.drop (fnd S n + 1).toNat)).length c27).ownBlock = some k → _ := hH.mine 12 _ rfl
              have hH := hH.freeze 12 rfl (fun k => (fun k => (fun k => (fun _ => False) k ∨ oks k) k ∨ oks k) k ∨ (Value.slice A27 ((S.take (fnd S n).toNat) ++ (S.drop (fnd S n + 1).toNat)).length c27).ownBlock = some k) (fun k => Iff.rfl)
              have hH := hH.subrd 12 rfl 2 (hH.rd 12 rfl) (fun _ h => h)
              refine r_take 17 hF rfl rfl rfl (by kernel_rfl) (by kernel_rfl) (by kernel_rfl) (fun _ _ _ h => h) rfl hS (fun w hS => x_nil (hF.tmp 11 rfl)) rfl ?_; clear hF; intro a hF
              refine r_take 18 hF rfl rfl rfl (by kernel_rfl) (by kernel_rfl) (by kernel_rfl) (fun _ _ _ h => h) rfl hS (fun w hS => x_faddr Try.underlying61 rfl ty59 (by decide) (hF.tmp 28 rfl) rfl) rfl ?_; clear hF; intro a hF
              refine r_do 19 rfl (by kernel_rfl) rfl rfl ?_
              refine w_store 1 hH ty59 rfl (hF.tmp 29 rfl) (hF.tmp 27 rfl) rfl (one1 rfl rfl) (by first | decide | exact Nat.le_of_ble_eq_true rfl) ?_
              clear hH; intro w hH
              clear hS; have hS : SL _ _ := SL.of hH (sub_nil _); refine ⟨hS, ?_⟩
              refine r_end (by kernel_rfl) ?_; clear hS
              refine hK6 _ _ ?_
              refine wp_seq_k fun khK27 hK27 => ?_
              refine wp_region_lit ?_
              refine l_at hF rfl rfl rfl (x_assign rfl) ?_; clear hF; intro a hF
              refine wpList_nil ?_
              refine hK27 _ _ ?_
              refine wp_ret ?_
              try simp only [Exit.then, Exit.inBlock]
              have hE_ := at_of hat.2.2
              have hM_ := (remS_on hat.2.2).resolve_right hc10
              refine fin_ret hF (res1 hF rfl rfl) ⟨Asn.all [(1, .blk bd (.cells #[.slice A27 ((S.take (fnd S n).toNat) ++ (S.drop (fnd S n + 1).toNat)).length c27, .slice Ar rt.length cr] 61 (0, 0))), (2, .rd_ SgE A27 ((S.take (fnd S n).toNat) ++ (S.drop (fnd S n + 1).toNat)) c27 (fun k => (fun k => (fun k => (fun _ => False) k ∨ oks k) k ∨ oks k) k ∨ (Value.slice A27 ((S.take (fnd S n).toNat) ++ (S.drop (fnd S n + 1).toNat)).length c27).ownBlock = some k)), (3, .rd_ (.int .u8) Ar rt cr okr)], by rw [hE_] <;> rfl, by rw [hM_]; exact ⟨_, _, _, _, _, _, rfl⟩, grew_of (hH.sub [(1, .blk bd (.cells #[.slice A27 ((S.take (fnd S n).toNat) ++ (S.drop (fnd S n + 1).toNat)).length c27, .slice Ar rt.length cr] 61 (0, 0))), (2, .rd_ SgE A27 ((S.take (fnd S n).toNat) ++ (S.drop (fnd S n + 1).toNat)) c27 (fun k => (fun k => (fun k => (fun _ => False) k ∨ oks k) k ∨ oks k) k ∨ (Value.slice A27 ((S.take (fnd S n).toNat) ++ (S.drop (fnd S n + 1).toNat)).length c27).ownBlock = some k)), (3, .rd_ (.int .u8) Ar rt cr okr)] (sub_cons (sub_cons (sub_cons (sub_nil _) 3 rfl) 2 rfl) 1 rfl)) (rdin_cons (fun k h => h.elim) (rdin_cons (fun k h => h.elim (fun h => h.elim (fun h => h.elim (fun h => h.elim) (fun h => .inr (.inl ⟨2, _, rfl, h⟩))) (fun h => .inr (.inl ⟨2, _, rfl, h⟩))) (fun h => (hb27 k h).elim .inl (fun h => .inr (.inr (.inr h))))) (rdin_cons (fun k h => .inr (.inl ⟨3, _, rfl, h⟩)) rdin_nil)))⟩
          ·
            refine w_at hF (x_slice_l (E := SgE) Try.underlying59 ty115 (hF.tmp 23 rfl) (hF.tmp 25 rfl) (by omega) (by omega) ((hH.rd 2 rfl)).1) rfl rfl ?_
            clear hF; intro a hF
            clear hS; have hS : SL _ _ := SL.of hH (sub_nil _); refine ⟨hS, ?_⟩
            refine r_do 1 rfl (by kernel_rfl) rfl rfl ?_
            refine w_lit0 SgE 12 hF hH rfl Try.underlying59 ty115 ?_
            clear hF hH; intro a w b12 hF hH
            clear hS; have hS : SL _ _ := SL.of hH (sub_nil _); refine ⟨hS, ?_⟩
            refine r_do 8 rfl (by kernel_rfl) rfl rfl ?_
            refine w_append 12 2 (xs := ([])) (ys := (S.take ((fnd S n).toNat))) hF hH rfl Try.underlying59 ty115 rfl rfl rfl rfl ((Rd.take ((hH.rd 2 rfl)) ((fnd S n).toNat))) (by intro k_ hk_; exact .inr hk_) (hF.tmp 12 rfl) (hF.tmp 18 rfl) (by simp only [List.length_nil, List.length_take]; omega) (by simp only [List.length_nil, List.length_take, maxLen]; omega) (fun k => (fun _ => False) k ∨ oks k) (fun w' v' h => h) (by rintro k_ (hk_ | hk_); exact .inl hk_; exact .inr hk_) ?_
            clear hF hH; intro a w v19 hF hH
            clear hS; have hS : SL _ _ := SL.of hH (sub_nil _); refine ⟨hS, ?_⟩
            rw [List.nil_append] at hH
            refine r_do 16 rfl (by kernel_rfl) rfl rfl ?_
            refine w_append 12 2 (xs := (S.take (fnd S n).toNat)) (ys := (S.drop (((fnd S n) + 1).toNat))) hF hH rfl Try.underlying59 ty115 rfl rfl rfl rfl ((Rd.drop ((hH.rd 2 rfl)) (by omega : ((fnd S n) + 1).toNat ≤ S.length))) (by intro k_ hk_; exact .inr hk_) (hF.tmp 19 rfl) (hF.tmp 26 rfl) (by simp only [List.length_drop, List.length_take]; omega) (by simp only [List.length_drop, List.length_take, maxLen]; omega) (fun k => (fun k => (fun _ => False) k ∨ oks k) k ∨ oks k) (fun w' v' h => h) (by rintro k_ (hk_ | hk_); exact .inl hk_; exact .inr hk_) ?_
            clear hF hH; intro a w v27 hF hH
            clear hS; have hS : SL _ _ := SL.of hH (sub_nil _); refine ⟨hS, ?_⟩
            obtain ⟨A27, c27, rfl⟩ := (hH.row 12 rfl).form
            have hb27 : ∀ k, (Value.slice A27 ((S.take (fnd S n).toNat) ++ (S.drop (fnd S n + 1).toNat)).length c27).ownBlock = some k → _ := hH.mine 12 _ rfl
            have hH := hH.freeze 12 rfl (fun k => (fun k => (fun k => (fun _ => False) k ∨ oks k) k ∨ oks k) k ∨ (Value.slice A27 ((S.take (fnd S n).toNat) ++ (S.drop (fnd S n + 1).toNat)).length c27).ownBlock = some k) (fun k => Iff.rfl)
            have hH := hH.subrd 12 rfl 2 (hH.rd 12 rfl) (fun _ h => h)
            refine r_take 17 hF rfl rfl rfl (by kernel_rfl) (by kernel_rfl) (by kernel_rfl) (fun _ _ _ h => h) rfl hS (fun w hS => x_nil (hF.tmp 11 rfl)) rfl ?_; clear hF; intro a hF
            refine r_take 18 hF rfl rfl rfl (by kernel_rfl) (by kernel_rfl) (by kernel_rfl) (fun _ _ _ h => h) rfl hS (fun w hS => x_faddr Try.underlying61 rfl ty59 (by decide) (hF.tmp 28 rfl) rfl) rfl ?_; clear hF; intro a hF
            refine r_do 19 rfl (by kernel_rfl) rfl rfl ?_
            refine w_store 1 hH ty59 rfl (hF.tmp 29 rfl) (hF.tmp 27 rfl) rfl (one1 rfl rfl) (by first | decide | exact Nat.le_of_ble_eq_true rfl) ?_
            clear hH; intro w hH
            clear hS; have hS : SL _ _ := SL.of hH (sub_nil _); refine ⟨hS, ?_⟩
            refine r_end (by kernel_rfl) ?_; clear hS
            refine hK6 _ _ ?_
            refine wp_seq_k fun khK28 hK28 => ?_
            refine wp_region_lit ?_
            refine l_at hF rfl rfl rfl (x_assign rfl) ?_; clear hF; intro a hF
            refine wpList_nil ?_
            refine hK28 _ _ ?_
            refine wp_ret ?_
            try simp only [Exit.then, Exit.inBlock]
            have hE_ := at_of hat.2.2
            have hM_ := (remS_on hat.2.2).resolve_right hc10
            refine fin_ret hF (res1 hF rfl rfl) ⟨Asn.all [(1, .blk bd (.cells #[.slice A27 ((S.take (fnd S n).toNat) ++ (S.drop (fnd S n + 1).toNat)).length c27, .slice Ar rt.length cr] 61 (0, 0))), (2, .rd_ SgE A27 ((S.take (fnd S n).toNat) ++ (S.drop (fnd S n + 1).toNat)) c27 (fun k => (fun k => (fun k => (fun _ => False) k ∨ oks k) k ∨ oks k) k ∨ (Value.slice A27 ((S.take (fnd S n).toNat) ++ (S.drop (fnd S n + 1).toNat)).length c27).ownBlock = some k)), (3, .rd_ (.int .u8) Ar rt cr okr)], by rw [hE_] <;> rfl, by rw [hM_]; exact ⟨_, _, _, _, _, _, rfl⟩, grew_of (hH.sub [(1, .blk bd (.cells #[.slice A27 ((S.take (fnd S n).toNat) ++ (S.drop (fnd S n + 1).toNat)).length c27, .slice Ar rt.length cr] 61 (0, 0))), (2, .rd_ SgE A27 ((S.take (fnd S n).toNat) ++ (S.drop (fnd S n + 1).toNat)) c27 (fun k => (fun k => (fun k => (fun _ => False) k ∨ oks k) k ∨ oks k) k ∨ (Value.slice A27 ((S.take (fnd S n).toNat) ++ (S.drop (fnd S n + 1).toNat)).length c27).ownBlock = some k)), (3, .rd_ (.int .u8) Ar rt cr okr)] (sub_cons (sub_cons (sub_cons (sub_nil _) 3 rfl) 2 rfl) 1 rfl)) (rdin_cons (fun k h => h.elim) (rdin_cons (fun k h => h.elim (fun h => h.elim (fun h => h.elim (fun h => h.elim) (fun h => .inr (.inl ⟨2, _, rfl, h⟩))) (fun h => .inr (.inl ⟨2, _, rfl, h⟩))) (fun h => (hb27 k h).elim .inl (fun h => .inr (.inr (.inr h))))) (rdin_cons (fun k h => .inr (.inl ⟨3, _, rfl, h⟩)) rdin_nil)))⟩
      ·
        refine w_at hF (x_load1 ty59 (hF.tmp 22 rfl) (blk_cell (hH.at 1 rfl) 0 rfl)) rfl rfl ?_
        clear hF; intro a hF
        clear hS; have hS : SL _ _ := SL.of hH (sub_nil _); refine ⟨hS, ?_⟩
        refine r_do3 1 7 15 rfl rfl rfl (by kernel_rfl) rfl rfl rfl rfl rfl rfl ?_ ?_ ?_
        ·
          refine w_lit0 SgE 12 hF hH rfl Try.underlying59 ty115 ?_
          clear hF hH; intro a w b12 hF hH
          clear hS; have hS : SL _ _ := SL.of hH (sub_nil _); refine ⟨hS, ?_⟩
          refine r_do2 7 15 rfl rfl (by kernel_rfl) rfl rfl rfl rfl ?_ ?_
          ·
            refine w_at hF (x_slice_h Try.underlying59 ty115 (hF.tmp 16 rfl) (hF.tmp 17 rfl) (by omega) (by omega) ((hH.rd 2 rfl)).1) rfl rfl ?_
            clear hF; intro a hF
            clear hS; have hS : SL _ _ := SL.of hH (sub_nil _); refine ⟨hS, ?_⟩
            refine r_do2 8 15 rfl rfl (by kernel_rfl) rfl rfl rfl rfl ?_ ?_
            ·
              refine w_append 12 2 (xs := ([])) (ys := (S.take ((fnd S n).toNat))) hF hH rfl Try.underlying59 ty115 rfl rfl rfl rfl ((Rd.take ((hH.rd 2 rfl)) ((fnd S n).toNat))) (by intro k_ hk_; exact .inr hk_) (hF.tmp 12 rfl) (hF.tmp 18 rfl) (by simp only [List.length_nil, List.length_take]; omega) (by simp only [List.length_nil, List.length_take, maxLen]; omega) (fun k => (fun _ => False) k ∨ oks k) (fun w' v' h => h) (by rintro k_ (hk_ | hk_); exact .inl hk_; exact .inr hk_) ?_
              clear hF hH; intro a w v19 hF hH
              clear hS; have hS : SL _ _ := SL.of hH (sub_nil _); refine ⟨hS, ?_⟩
              rw [List.nil_append] at hH
              refine r_do 15 rfl (by kernel_rfl) rfl rfl ?_
              refine w_at hF (x_slice_l (E := SgE) Try.underlying59 ty115 (hF.tmp 23 rfl) (hF.tmp 25 rfl) (by omega) (by omega) ((hH.rd 2 rfl)).1) rfl rfl ?_
              clear hF; intro a hF
              clear hS; have hS : SL _ _ := SL.of hH (sub_nil _); refine ⟨hS, ?_⟩
              refine r_do 16 rfl (by kernel_rfl) rfl rfl ?_
              refine w_append 12 2 (xs := (S.take (fnd S n).toNat)) (ys := (S.drop (((fnd S n) + 1).toNat))) hF hH rfl Try.underlying59 ty115 rfl rfl rfl rfl ((Rd.drop ((hH.rd 2 rfl)) (by omega : ((fnd S n) + 1).toNat ≤ S.length))) (by intro k_ hk_; exact .inr hk_) (hF.tmp 19 rfl) (hF.tmp 26 rfl) (by simp only [List.length_drop, List.length_take]; omega) (by simp only [List.length_drop, List.length_take, maxLen]; omega) (fun k => (fun k => (fun _ => False) k ∨ oks k) k ∨ oks k) (fun w' v' h => h) (by rintro k_ (hk_ | hk_); exact .inl hk_; exact .inr hk_) ?_
              clear hF hH; intro a w v27 hF hH
              clear hS; have hS : SL _ _ := SL.of hH (sub_nil _); refine ⟨hS, ?_⟩
              obtain ⟨A27, c27, rfl⟩ := (hH.row 12 rfl).form
              have hb27 : ∀ k, (Value.slice A27 ((S.take (fnd S n).toNat) ++ (S.drop (fnd S n + 1).toNat)).length c27).ownBlock = some k → _ := hH.mine 12 _ rfl
              have hH := hH.freeze 12 rfl (fun k => (fun k => (fun k => (fun _ => False) k ∨ oks k) k ∨ oks k) k ∨ (Value.slice A27 ((S.take (fnd S n).toNat) ++ (S.drop (fnd S n + 1).toNat)).length c27).ownBlock = some k) (fun k => Iff.rfl)
              have hH := hH.subrd 12 rfl 2 (hH.rd 12 rfl) (fun _ h => h)
              refine r_take 17 hF rfl rfl rfl (by kernel_rfl) (by kernel_rfl) (by kernel_rfl) (fun _ _ _ h => h) rfl hS (fun w hS => x_nil (hF.tmp 11 rfl)) rfl ?_; clear hF; intro a hF
              refine r_take 18 hF rfl rfl rfl (by kernel_rfl) (by kernel_rfl) (by kernel_rfl) (fun _ _ _ h => h) rfl hS (fun w hS => x_faddr Try.underlying61 rfl ty59 (by decide) (hF.tmp 28 rfl) rfl) rfl ?_; clear hF; intro a hF
              refine r_do 19 rfl (by kernel_rfl) rfl rfl ?_
              refine w_store 1 hH ty59 rfl (hF.tmp 29 rfl) (hF.tmp 27 rfl) rfl (one1 rfl rfl) (by first | decide | exact Nat.le_of_ble_eq_true rfl) ?_
              clear hH; intro w hH
              clear hS; have hS : SL _ _ := SL.of hH (sub_nil _); refine ⟨hS, ?_⟩
              refine r_end (by kernel_rfl) ?_; clear hS
              refine hK6 _ _ ?_
              refine wp_seq_k fun khK29 hK29 => ?_
              refine wp_region_lit ?_
              refine l_at hF rfl rfl rfl (x_assign rfl) ?_; clear hF; intro a hF
              refine wpList_nil ?_
              refine hK29 _ _ ?_
              refine wp_ret ?_
              try simp only [Exit.then, Exit.inBlock]
              have hE_ := at_of hat.2.2
              have hM_ := (remS_on hat.2.2).resolve_right hc10
              refine fin_ret hF (res1 hF rfl rfl) ⟨Asn.all [(1, .blk bd (.cells #[.slice A27 ((S.take (fnd S n).toNat) ++ (S.drop (fnd S n + 1).toNat)).length c27, .slice Ar rt.length cr] 61 (0, 0))), (2, .rd_ SgE A27 ((S.take (fnd S n).toNat) ++ (S.drop (fnd S n + 1).toNat)) c27 (fun k => (fun k => (fun k => (fun _ => False) k ∨ oks k) k ∨ oks k) k ∨ (Value.slice A27 ((S.take (fnd S n).toNat) ++ (S.drop (fnd S n + 1).toNat)).length c27).ownBlock = some k)), (3, .rd_ (.int .u8) Ar rt cr okr)], by rw [hE_] <;> rfl, by rw [hM_]; exact ⟨_, _, _, _, _, _, rfl⟩, grew_of (hH.sub [(1, .blk bd (.cells #[.slice A27 ((S.take (fnd S n).toNat) ++ (S.drop (fnd S n + 1).toNat)).length c27, .slice Ar rt.length cr] 61 (0, 0))), (2, .rd_ SgE A27 ((S.take (fnd S n).toNat) ++ (S.drop (fnd S n + 1).toNat)) c27 (fun k => (fun k => (fun k => (fun _ => False) k ∨ oks k) k ∨ oks k) k ∨ (Value.slice A27 ((S.take (fnd S n).toNat) ++ (S.drop (fnd S n + 1).toNat)).length c27).ownBlock = some k)), (3, .rd_ (.int .u8) Ar rt cr okr)] (sub_cons (sub_cons (sub_cons (sub_nil _) 3 rfl) 2 rfl) 1 rfl)) (rdin_cons (fun k h => h.elim) (rdin_cons (fun k h => h.elim (fun h => h.elim (fun h => h.elim (fun h => h.elim) (fun h => .inr (.inl ⟨2, _, rfl, h⟩))) (fun h => .inr (.inl ⟨2, _, rfl, h⟩))) (fun h => (hb27 k h).elim .inl (fun h => .inr (.inr (.inr h))))) (rdin_cons (fun k h => .inr (.inl ⟨3, _, rfl, h⟩)) rdin_nil)))⟩
            ·
              refine w_at hF (x_slice_l (E := SgE) Try.underlying59 ty115 (hF.tmp 23 rfl) (hF.tmp 25 rfl) (by omega) (by omega) ((hH.rd 2 rfl)).1) rfl rfl ?_
              clear hF; intro a hF
              clear hS; have hS : SL _ _ := SL.of hH (sub_nil _); refine ⟨hS, ?_⟩
              refine r_do 8 rfl (by kernel_rfl) rfl rfl ?_
              refine w_append 12 2 (xs := ([])) (ys := (S.take ((fnd S n).toNat))) hF hH rfl Try.underlying59 ty115 rfl rfl rfl rfl ((Rd.take ((hH.rd 2 rfl)) ((fnd S n).toNat))) (by intro k_ hk_; exact .inr hk_) (hF.tmp 12 rfl) (hF.tmp 18 rfl) (by simp only [List.length_nil, List.length_take]; omega) (by simp only [List.length_nil, List.length_take, maxLen]; omega) (fun k => (fun _ => False) k ∨ oks k) (fun w' v' h => h) (by rintro k_ (hk_ | hk_); exact .inl hk_; exact .inr hk_) ?_
              clear hF hH; intro a w v19 hF hH
              clear hS; have hS : SL _ _ := SL.of hH (sub_nil _); refine ⟨hS, ?_⟩
              rw [List.nil_append] at hH
              refine r_do 16 rfl (by kernel_rfl) rfl rfl ?_
              refine w_append 12 2 (xs := (S.take (fnd S n).toNat)) (ys := (S.drop (((fnd S n) + 1).toNat))) hF hH rfl Try.underlying59 ty115 rfl rfl rfl rfl ((Rd.drop ((hH.rd 2 rfl)) (by omega : ((fnd S n) + 1).toNat ≤ S.length))) (by intro k_ hk_; exact .inr hk_) (hF.tmp 19 rfl) (hF.tmp 26 rfl) (by simp only [List.length_drop, List.length_take]; omega) (by simp only [List.length_drop, List.length_take, maxLen]; omega) (fun k => (fun k => (fun _ => False) k ∨ oks k) k ∨ oks k) (fun w' v' h => h) (by rintro k_ (hk_ | hk_); exact .inl hk_; exact .inr hk_) ?_
              clear hF hH; intro a w v27 hF hH
              clear hS; have hS : SL _ _ := SL.of hH (sub_nil _); refine ⟨hS, ?_⟩
              obtain ⟨A27, c27, rfl⟩ := (hH.row 12 rfl).form
              have hb27 : ∀ k, (Value.slice A27 ((S.take (fnd S n).toNat) ++ (S.drop (fnd S n + 1).toNat)).length c27).ownBlock = some k → _ := hH.mine 12 _ rfl
              have hH := hH.freeze 12 rfl (fun k => (fun k => (fun k => (fun _ => False) k ∨ oks k) k ∨ oks k) k ∨ (Value.slice A27 ((S.take (fnd S n).toNat) ++ (S.drop (fnd S n + 1).toNat)).length c27).ownBlock = some k) (fun k => Iff.rfl)
              have hH := hH.subrd 12 rfl 2 (hH.rd 12 rfl) (fun _ h => h)
              refine r_take 17 hF rfl rfl rfl (by kernel_rfl) (by kernel_rfl) (by kernel_rfl) (fun _ _ _ h => h) rfl hS (fun w hS => x_nil (hF.tmp 11 rfl)) rfl ?_; clear hF; intro a hF
              refine r_take 18 hF rfl rfl rfl (by kernel_rfl) (by kernel_rfl) (by kernel_rfl) (fun _ _ _ h => h) rfl hS (fun w hS => x_faddr Try.underlying61 rfl ty59 (by decide) (hF.tmp 28 rfl) rfl) rfl ?_; clear hF; intro a hF
              refine r_do 19 rfl (by kernel_rfl) rfl rfl ?_
              refine w_store 1 hH ty59 rfl (hF.tmp 29 rfl) (hF.tmp 27 rfl) rfl (one1 rfl rfl) (by first | decide | exact Nat.le_of_ble_eq_true rfl) ?_
              clear hH; intro w hH
              clear hS; have hS : SL _ _ := SL.of hH (sub_nil _); refine ⟨hS, ?_⟩
              refine r_end (by kernel_rfl) ?_; clear hS
              refine hK6 _ _ ?_
              refine wp_seq_k fun khK30 hK30 => ?_
              refine wp_region_lit ?_
              refine l_at hF rfl rfl rfl (x_assign rfl) ?_; clear hF; intro a hF
              refine wpList_nil ?_
              refine hK30 _ _ ?_
              refine wp_ret ?_
              try simp only [Exit.then, Exit.inBlock]
              have hE_ := at_of hat.2.2
              have hM_ := (remS_on hat.2.2).resolve_right hc10
              refine fin_ret hF (res1 hF rfl rfl) ⟨Asn.all [(1, .blk bd (.cells #[.slice A27 ((S.take (fnd S n).toNat) ++ (S.drop (fnd S n + 1).toNat)).length c27, .slice Ar rt.length cr] 61 (0, 0))), (2, .rd_ SgE A27 ((S.take (fnd S n).toNat) ++ (S.drop (fnd S n + 1).toNat)) c27 (fun k => (fun k => (fun k => (fun _ => False) k ∨ oks k) k ∨ oks k) k ∨ (Value.slice A27 ((S.take (fnd S n).toNat) ++ (S.drop (fnd S n + 1).toNat)).length c27).ownBlock = some k)), (3, .rd_ (.int .u8) Ar rt cr okr)], by rw [hE_] <;> rfl, by rw [hM_]; exact ⟨_, _, _, _, _, _, rfl⟩, grew_of (hH.sub [(1, .blk bd (.cells #[.slice A27 ((S.take (fnd S n).toNat) ++ (S.drop (fnd S n + 1).toNat)).length c27, .slice Ar rt.length cr] 61 (0, 0))), (2, .rd_ SgE A27 ((S.take (fnd S n).toNat) ++ (S.drop (fnd S n + 1).toNat)) c27 (fun k => (fun k => (fun k => (fun _ => False) k ∨ oks k) k ∨ oks k) k ∨ (Value.slice A27 ((S.take (fnd S n).toNat) ++ (S.drop (fnd S n + 1).toNat)).length c27).ownBlock = some k)), (3, .rd_ (.int .u8) Ar rt cr okr)] (sub_cons (sub_cons (sub_cons (sub_nil _) 3 rfl) 2 rfl) 1 rfl)) (rdin_cons (fun k h => h.elim) (rdin_cons (fun k h => h.elim (fun h => h.elim (fun h => h.elim (fun h => h.elim) (fun h => .inr (.inl ⟨2, _, rfl, h⟩))) (fun h => .inr (.inl ⟨2, _, rfl, h⟩))) (fun h => (hb27 k h).elim .inl (fun h => .inr (.inr (.inr h))))) (rdin_cons (fun k h => .inr (.inl ⟨3, _, rfl, h⟩)) rdin_nil)))⟩
          ·
            refine w_at hF (x_slice_l (E := SgE) Try.underlying59 ty115 (hF.tmp 23 rfl) (hF.tmp 25 rfl) (by omega) (by omega) ((hH.rd 2 rfl)).1) rfl rfl ?_
            clear hF; intro a hF
            clear hS; have hS : SL _ _ := SL.of hH (sub_nil _); refine ⟨hS, ?_⟩
            refine r_do 7 rfl (by kernel_rfl) rfl rfl ?_
            refine w_at hF (x_slice_h Try.underlying59 ty115 (hF.tmp 16 rfl) (hF.tmp 17 rfl) (by omega) (by omega) ((hH.rd 2 rfl)).1) rfl rfl ?_
            clear hF; intro a hF
            clear hS; have hS : SL _ _ := SL.of hH (sub_nil _); refine ⟨hS, ?_⟩
            refine r_do 8 rfl (by kernel_rfl) rfl rfl ?_
            refine w_append 12 2 (xs := ([])) (ys := (S.take ((fnd S n).toNat))) hF hH rfl Try.underlying59 ty115 rfl rfl rfl rfl ((Rd.take ((hH.rd 2 rfl)) ((fnd S n).toNat))) (by intro k_ hk_; exact .inr hk_) (hF.tmp 12 rfl) (hF.tmp 18 rfl) (by simp only [List.length_nil, List.length_take]; omega) (by simp only [List.length_nil, List.length_take, maxLen]; omega) (fun k => (fun _ => False) k ∨ oks k) (fun w' v' h => h) (by rintro k_ (hk_ | hk_); exact .inl hk_; exact .inr hk_) ?_
            clear hF hH; intro a w v19 hF hH
            clear hS; have hS : SL _ _ := SL.of hH (sub_nil _); refine ⟨hS, ?_⟩
            rw [List.nil_append] at hH
            refine r_do 16 rfl (by kernel_rfl) rfl rfl ?_
            refine w_append 12 2 (xs := (S.take (fnd S n).toNat)) (ys := (S.drop (((fnd S n) + 1).toNat))) hF hH rfl Try.underlying59 ty115 rfl rfl rfl rfl ((Rd.drop ((hH.rd 2 rfl)) (by omega : ((fnd S n) + 1).toNat ≤ S.length))) (by intro k_ hk_; exact .inr hk_) (hF.tmp 19 rfl) (hF.tmp 26 rfl) (by simp only [List.length_drop, List.length_take]; omega) (by simp only [List.length_drop, List.length_take, maxLen]; omega) (fun k => (fun k => (fun _ => False) k ∨ oks k) k ∨ oks k) (fun w' v' h => h) (by rintro k_ (hk_ | hk_); exact .inl hk_; exact .inr hk_) ?_
            clear hF hH; intro a w v27 hF hH
            clear hS; have hS : SL _ _ := SL.of hH (sub_nil _); refine ⟨hS, ?_⟩
            obtain ⟨A27, c27, rfl⟩ := (hH.row 12 rfl).form
            have hb27 : ∀ k, (Value.slice A27 ((S.take (fnd S n).toNat) ++ (S.drop (fnd S n + 1).toNat)).length c27).ownBlock = some k → _ := hH.mine 12 _ rfl
            have hH := hH.freeze 12 rfl (fun k => (fun k => (fun k => (fun _ => False) k ∨ oks k) k ∨ oks k) k ∨ (Value.slice A27 ((S.take (fnd S n).toNat) ++ (S.drop (fnd S n + 1).toNat)).length c27).ownBlock = some k) (fun k => Iff.rfl)
            have hH := hH.subrd 12 rfl 2 (hH.rd 12 rfl) (fun _ h => h)
            refine r_take 17 hF rfl rfl rfl (by kernel_rfl) (by kernel_rfl) (by kernel_rfl) (fun _ _ _ h => h) rfl hS (fun w hS => x_nil (hF.tmp 11 rfl)) rfl ?_; clear hF; intro a hF
            refine r_take 18 hF rfl rfl rfl (by kernel_rfl) (by kernel_rfl) (by kernel_rfl) (fun _ _ _ h => h) rfl hS (fun w hS => x_faddr Try.underlying61 rfl ty59 (by decide) (hF.tmp 28 rfl) rfl) rfl ?_; clear hF; intro a hF
            refine r_do 19 rfl (by kernel_rfl) rfl rfl ?_
            refine w_store 1 hH ty59 rfl (hF.tmp 29 rfl) (hF.tmp 27 rfl) rfl (one1 rfl rfl) (by first | decide | exact Nat.le_of_ble_eq_true rfl) ?_
            clear hH; intro w hH
            clear hS; have hS : SL _ _ := SL.of hH (sub_nil _); refine ⟨hS, ?_⟩
            refine r_end (by kernel_rfl) ?_; clear hS
            refine hK6 _ _ ?_
            refine wp_seq_k fun khK31 hK31 => ?_
            refine wp_region_lit ?_
            refine l_at hF rfl rfl rfl (x_assign rfl) ?_; clear hF; intro a hF
            refine wpList_nil ?_
            refine hK31 _ _ ?_
            refine wp_ret ?_
            try simp only [Exit.then, Exit.inBlock]
            have hE_ := at_of hat.2.2
            have hM_ := (remS_on hat.2.2).resolve_right hc10
            refine fin_ret hF (res1 hF rfl rfl) ⟨Asn.all [(1, .blk bd (.cells #[.slice A27 ((S.take (fnd S n).toNat) ++ (S.drop (fnd S n + 1).toNat)).length c27, .slice Ar rt.length cr] 61 (0, 0))), (2, .rd_ SgE A27 ((S.take (fnd S n).toNat) ++ (S.drop (fnd S n + 1).toNat)) c27 (fun k => (fun k => (fun k => (fun _ => False) k ∨ oks k) k ∨ oks k) k ∨ (Value.slice A27 ((S.take (fnd S n).toNat) ++ (S.drop (fnd S n + 1).toNat)).length c27).ownBlock = some k)), (3, .rd_ (.int .u8) Ar rt cr okr)], by rw [hE_] <;> rfl, by rw [hM_]; exact ⟨_, _, _, _, _, _, rfl⟩, grew_of (hH.sub [(1, .blk bd (.cells #[.slice A27 ((S.take (fnd S n).toNat) ++ (S.drop (fnd S n + 1).toNat)).length c27, .slice Ar rt.length cr] 61 (0, 0))), (2, .rd_ SgE A27 ((S.take (fnd S n).toNat) ++ (S.drop (fnd S n + 1).toNat)) c27 (fun k => (fun k => (fun k => (fun _ => False) k ∨ oks k) k ∨ oks k) k ∨ (Value.slice A27 ((S.take (fnd S n).toNat) ++ (S.drop (fnd S n + 1).toNat)).length c27).ownBlock = some k)), (3, .rd_ (.int .u8) Ar rt cr okr)] (sub_cons (sub_cons (sub_cons (sub_nil _) 3 rfl) 2 rfl) 1 rfl)) (rdin_cons (fun k h => h.elim) (rdin_cons (fun k h => h.elim (fun h => h.elim (fun h => h.elim (fun h => h.elim) (fun h => .inr (.inl ⟨2, _, rfl, h⟩))) (fun h => .inr (.inl ⟨2, _, rfl, h⟩))) (fun h => (hb27 k h).elim .inl (fun h => .inr (.inr (.inr h))))) (rdin_cons (fun k h => .inr (.inl ⟨3, _, rfl, h⟩)) rdin_nil)))⟩
        ·
          refine w_at hF (x_slice_h Try.underlying59 ty115 (hF.tmp 16 rfl) (hF.tmp 17 rfl) (by omega) (by omega) ((hH.rd 2 rfl)).1) rfl rfl ?_
          clear hF; intro a hF
          clear hS; have hS : SL _ _ := SL.of hH (sub_nil _); refine ⟨hS, ?_⟩
          refine r_do2 1 15 rfl rfl (by kernel_rfl) rfl rfl rfl rfl ?_ ?_
          ·
            refine w_lit0 SgE 12 hF hH rfl Try.underlying59 ty115 ?_
            clear hF hH; intro a w b12 hF hH
            clear hS; have hS : SL _ _ := SL.of hH (sub_nil _); refine ⟨hS, ?_⟩
            refine r_do2 8 15 rfl rfl (by kernel_rfl) rfl rfl rfl rfl ?_ ?_
            ·
              refine w_append 12 2 (xs := ([])) (ys := (S.take ((fnd S n).toNat))) hF hH rfl Try.underlying59 ty115 rfl rfl rfl rfl ((Rd.take ((hH.rd 2 rfl)) ((fnd S n).toNat))) (by intro k_ hk_; exact .inr hk_) (hF.tmp 12 rfl) (hF.tmp 18 rfl) (by simp only [List.length_nil, List.length_take]; omega) (by simp only [List.length_nil, List.length_take, maxLen]; omega) (fun k => (fun _ => False) k ∨ oks k) (fun w' v' h => h) (by rintro k_ (hk_ | hk_); exact .inl hk_; exact .inr hk_) ?_
              clear hF hH; intro a w v19 hF hH
              clear hS; have hS : SL _ _ := SL.of hH (sub_nil _); refine ⟨hS, ?_⟩
              rw [List.nil_append] at hH
              refine r_do 15 rfl (by kernel_rfl) rfl rfl ?_
              refine w_at hF (x_slice_l (E := SgE) Try.underlying59 ty115 (hF.tmp 23 rfl) (hF.tmp 25 rfl) (by omega) (by omega) ((hH.rd 2 rfl)).1) rfl rfl ?_
              clear hF; intro a hF
              clear hS; have hS : SL _ _ := SL.of hH (sub_nil _); refine ⟨hS, ?_⟩
              refine r_do 16 rfl (by kernel_rfl) rfl rfl ?_
              refine w_append 12 2 (xs := (S.take (fnd S n).toNat)) (ys := (S.drop (((fnd S n) + 1).toNat))) hF hH rfl Try.underlying59 ty115 rfl rfl rfl rfl ((Rd.drop ((hH.rd 2 rfl)) (by omega : ((fnd S n) + 1).toNat ≤ S.length))) (by intro k_ hk_; exact .inr hk_) (hF.tmp 19 rfl) (hF.tmp 26 rfl) (by simp only [List.length_drop, List.length_take]; omega) (by simp only [List.length_drop, List.length_take, maxLen]; omega) (fun k => (fun k => (fun _ => False) k ∨ oks k) k ∨ oks k) (fun w' v' h => h) (by rintro k_ (hk_ | hk_); exact .inl hk_; exact .inr hk_) ?_
              clear hF hH; intro a w v27 hF hH
              clear hS; have hS : SL _ _ := SL.of hH (sub_nil _); refine ⟨hS, ?_⟩
              obtain ⟨A27, c27, rfl⟩ := (hH.row 12 rfl).form
              have hb27 : ∀ k, (Value.slice A27 ((S.take (fnd S n).toNat) ++ (S.drop (fnd S n + 1).toNat)).length c27).ownBlock = some k → _ := hH.mine 12 _ rfl
              have hH := hH.freeze 12 rfl (fun k => (fun k => (fun k => (fun _ => False) k ∨ oks k) k ∨ oks k) k ∨ (Value.slice A27 ((S.take (fnd S n).toNat) ++ (S.drop (fnd S n + 1).toNat)).length c27).ownBlock = some k) (fun k => Iff.rfl)
              have hH := hH.subrd 12 rfl 2 (hH.rd 12 rfl) (fun _ h => h)
              refine r_take 17 hF rfl rfl rfl (by kernel_rfl) (by kernel_rfl) (by kernel_rfl) (fun _ _ _ h => h) rfl hS (fun w hS => x_nil (hF.tmp 11 rfl)) rfl ?_; clear hF; intro a hF
              refine r_take 18 hF rfl rfl rfl (by kernel_rfl) (by kernel_rfl) (by kernel_rfl) (fun _ _ _ h => h) rfl hS (fun w hS => x_faddr Try.underlying61 rfl ty59 (by decide) (hF.tmp 28 rfl) rfl) rfl ?_; clear hF; intro a hF
              refine r_do 19 rfl (by kernel_rfl) rfl rfl ?_
              refine w_store 1 hH ty59 rfl (hF.tmp 29 rfl) (hF.tmp 27 rfl) rfl (one1 rfl rfl) (by first | decide | exact Nat.le_of_ble_eq_true rfl) ?_
              clear hH; intro w hH
              clear hS; have hS : SL _ _ := SL.of hH (sub_nil _); refine ⟨hS, ?_⟩
              refine r_end (by kernel_rfl) ?_; clear hS
              refine hK6 _ _ ?_
              refine wp_seq_k fun khK32 hK32 => ?_
              refine wp_region_lit ?_
              refine l_at hF rfl rfl rfl (x_assign rfl) ?_; clear hF; intro a hF
              refine wpList_nil ?_
              refine hK32 _ _ ?_
              refine wp_ret ?_
              try simp only [Exit.then, Exit.inBlock]
              have hE_ := at_of hat.2.2
              have hM_ := (remS_on hat.2.2).resolve_right hc10
              refine fin_ret hF (res1 hF rfl rfl) ⟨Asn.all [(1, .blk bd (.cells #[.slice A27 ((S.take (fnd S n).toNat) ++ (S.drop (fnd S n + 1).toNat)).length c27, .slice Ar rt.length cr] 61 (0, 0))), (2, .rd_ SgE A27 ((S.take (fnd S n).toNat) ++ (S.drop (fnd S n + 1).toNat)) c27 (fun k => (fun k => (fun k => (fun _ => False) k ∨ oks k) k ∨ oks k) k ∨ (Value.slice A27 ((S.take (fnd S n).toNat) ++ (S.drop (fnd S n + 1).toNat)).length c27).ownBlock = some k)), (3, .rd_ (.int .u8) Ar rt cr okr)], by rw [hE_] <;> rfl, by rw [hM_]; exact ⟨_, _, _, _, _, _, rfl⟩, grew_of (hH.sub [(1, .blk bd (.cells #[.slice A27 ((S.take (fnd S n).toNat) ++ (S.drop (fnd S n + 1).toNat)).length c27, .slice Ar rt.length cr] 61 (0, 0))), (2, .rd_ SgE A27 ((S.take (fnd S n).toNat) ++ (S.drop (fnd S n + 1).toNat)) c27 (fun k => (fun k => (fun k => (fun _ => False) k ∨ oks k) k ∨ oks k) k ∨ (Value.slice A27 ((S.take (fnd S n).toNat) ++ (S.drop (fnd S n + 1).toNat)).length c27).ownBlock = some k)), (3, .rd_ (.int .u8) Ar rt cr okr)] (sub_cons (sub_cons (sub_cons (sub_nil _) 3 rfl) 2 rfl) 1 rfl)) (rdin_cons (fun k h => h.elim) (rdin_cons (fun k h => h.elim (fun h => h.elim (fun h => h.elim (fun h => h.elim) (fun h => .inr (.inl ⟨2, _, rfl, h⟩))) (fun h => .inr (.inl ⟨2, _, rfl, h⟩))) (fun h => (hb27 k h).elim .inl (fun h => .inr (.inr (.inr h))))) (rdin_cons (fun k h => .inr (.inl ⟨3, _, rfl, h⟩)) rdin_nil)))⟩
            ·
              refine w_at hF (x_slice_l (E := SgE) Try.underlying59 ty115 (hF.tmp 23 rfl) (hF.tmp 25 rfl) (by omega) (by omega) ((hH.rd 2 rfl)).1) rfl rfl ?_
              clear hF; intro a hF
              clear hS; have hS : SL _ _ := SL.of hH (sub_nil _); refine ⟨hS, ?_⟩
              refine r_do 8 rfl (by kernel_rfl) rfl rfl ?_
              refine w_append 12 2 (xs := ([])) (ys := (S.take ((fnd S n).toNat))) hF hH rfl Try.underlying59 ty115 rfl rfl rfl rfl ((Rd.take ((hH.rd 2 rfl)) ((fnd S n).toNat))) (by intro k_ hk_; exact .inr hk_) (hF.tmp 12 rfl) (hF.tmp 18 rfl) (by simp only [List.length_nil, List.length_take]; omega) (by simp only [List.length_nil, List.length_take, maxLen]; omega) (fun k => (fun _ => False) k ∨ oks k) (fun w' v' h => h) (by rintro k_ (hk_ | hk_); exact .inl hk_; exact .inr hk_) ?_
              clear hF hH; intro a w v19 hF hH
              clear hS; have hS : SL _ _ := SL.of hH (sub_nil _); refine ⟨hS, ?_⟩
              rw [List.nil_append] at hH
              refine r_do 16 rfl (by kernel_rfl) rfl rfl ?_
              refine w_append 12 2 (xs := (S.take (fnd S n).toNat)) (ys := (S.drop (((fnd S n) + 1).toNat))) hF hH rfl Try.underlying59 ty115 rfl rfl rfl rfl ((Rd.drop ((hH.rd 2 rfl)) (by omega : ((fnd S n) + 1).toNat ≤ S.length))) (by intro k_ hk_; exact .inr hk_) (hF.tmp 19 rfl) (hF.tmp 26 rfl) (by simp only [List.length_drop, List.length_take]; omega) (by simp only [List.length_drop, List.length_take, maxLen]; omega) (fun k => (fun k => (fun _ => False) k ∨ oks k) k ∨ oks k) (fun w' v' h => h) (by rintro k_ (hk_ | hk_); exact .inl hk_; exact .inr hk_) ?_
              clear hF hH; intro a w v27 hF hH
              clear hS; have hS : SL _ _ := SL.of hH (sub_nil _); refine ⟨hS, ?_⟩
              obtain ⟨A27, c27, rfl⟩ := (hH.row 12 rfl).form
              have hb27 : ∀ k, (Value.slice A27 ((S.take (fnd S n).toNat) ++ (S.drop (fnd S n + 1).toNat)).length c27).ownBlock = some k → _ := hH.mine 12 _ rfl
              have hH := hH.freeze 12 rfl (fun k => (fun k => (fun k => (fun _ => False) k ∨ oks k) k ∨ oks k) k ∨ (Value.slice A27 ((S.take (fnd S n).toNat) ++ (S.drop (fnd S n + 1).toNat)).length c27).ownBlock = some k) (fun k => Iff.rfl)
              have hH := hH.subrd 12 rfl 2 (hH.rd 12 rfl) (fun _ h => h)
              refine r_take 17 hF rfl rfl rfl (by kernel_rfl) (by kernel_rfl) (by kernel_rfl) (fun _ _ _ h => h) rfl hS (fun w hS => x_nil (hF.tmp 11 rfl)) rfl ?_; clear hF; intro a hF
              refine r_take 18 hF rfl rfl rfl (by kernel_rfl) (by kernel_rfl) (by kernel_rfl) (fun _ _ _ h => h) rfl hS (fun w hS => x_faddr Try.underlying61 rfl ty59 (by decide) (hF.tmp 28 rfl) rfl) rfl ?_; clear hF; intro a hF
              refine r_do 19 rfl (by kernel_rfl) rfl rfl ?_
              refine w_store 1 hH ty59 rfl (hF.tmp 29 rfl) (hF.tmp 27 rfl) rfl (one1 rfl rfl) (by first | decide | exact Nat.le_of_ble_eq_true rfl) ?_
              clear hH; intro w hH
              clear hS; have hS : SL _ _ := SL.of hH (sub_nil _); refine ⟨hS, ?_⟩
              refine r_end (by kernel_rfl) ?_; clear hS
              refine hK6 _ _ ?_
              refine wp_seq_k fun khK33 hK33 => ?_
              refine wp_region_lit ?_
              refine l_at hF rfl rfl rfl (x_assign rfl) ?_; clear hF; intro a hF
              refine wpList_nil ?_
              refine hK33 _ _ ?_
              refine wp_ret ?_
              try simp only [Exit.then, Exit.inBlock]
              have hE_ := at_of hat.2.2
              have hM_ := (remS_on hat.2.2).resolve_right hc10
              refine fin_ret hF (res1 hF rfl rfl) ⟨Asn.all [(1, .blk bd (.cells #[.slice A27 ((S.take (fnd S n).toNat) ++ (S.drop (fnd S n + 1).toNat)).length c27, .slice Ar rt.length cr] 61 (0, 0))), (2, .rd_ SgE A27 ((S.take (fnd S n).toNat) ++ (S.drop (fnd S n + 1).toNat)) c27 (fun k => (fun k => (fun k => (fun _ => False) k ∨ oks k) k ∨ oks k) k ∨ (Value.slice A27 ((S.take (fnd S n).toNat) ++ (S.drop (fnd S n + 1).toNat)).length c27).ownBlock = some k)), (3, .rd_ (.int .u8) Ar rt cr okr)], by rw [hE_] <;> rfl, by rw [hM_]; exact ⟨_, _, _, _, _, _, rfl⟩, grew_of (hH.sub [(1, .blk bd (.cells #[.slice A27 ((S.take (fnd S n).toNat) ++ (S.drop (fnd S n + 1).toNat)).length c27, .slice Ar rt.length cr] 61 (0, 0))), (2, .rd_ SgE A27 ((S.take (fnd S n).toNat) ++ (S.drop (fnd S n + 1).toNat)) c27 (fun k => (fun k => (fun k => (fun _ => False) k ∨ oks k) k ∨ oks k) k ∨ (Value.slice A27 ((S.take (fnd S n).toNat) ++ (S.drop (fnd S n + 1).toNat)).length c27).ownBlock = some k)), (3, .rd_ (.int .u8) Ar rt cr okr)] (sub_cons (sub_cons (sub_cons (sub_nil _) 3 rfl) 2 rfl) 1 rfl)) (rdin_cons (fun k h => h.elim) (rdin_cons (fun k h => h.elim (fun h => h.elim (fun h => h.elim (fun h => h.elim) (fun h => .inr (.inl ⟨2, _, rfl, h⟩))) (fun h => .inr (.inl ⟨2, _, rfl, h⟩))) (fun h => (hb27 k h).elim .inl (fun h => .inr (.inr (.inr h))))) (rdin_cons (fun k h => .inr (.inl ⟨3, _, rfl, h⟩)) rdin_nil)))⟩
          ·
            refine w_at hF (x_slice_l (E := SgE) Try.underlying59 ty115 (hF.tmp 23 rfl) (hF.tmp 25 rfl) (by omega) (by omega) ((hH.rd 2 rfl)).1) rfl rfl ?_
            clear hF; intro a hF
            clear hS; have hS : SL _ _ := SL.of hH (sub_nil _); refine ⟨hS, ?_⟩
            refine r_do 1 rfl (by kernel_rfl) rfl rfl ?_
            refine w_lit0 SgE 12 hF hH rfl Try.underlying59 ty115 ?_
            clear hF hH; intro a w b12 hF hH
            clear hS; have hS : SL _ _ := SL.of hH (sub_nil _); refine ⟨hS, ?_⟩
            refine r_do 8 rfl (by kernel_rfl) rfl rfl ?_
            refine w_append 12 2 (xs := ([])) (ys := (S.take ((fnd S n).toNat))) hF hH rfl Try.underlying59 ty115 rfl rfl rfl rfl ((Rd.take ((hH.rd 2 rfl)) ((fnd S n).toNat))) (by intro k_ hk_; exact .inr hk_) (hF.tmp 12 rfl) (hF.tmp 18 rfl) (by simp only [List.length_nil, List.length_take]; omega) (by simp only [List.length_nil, List.length_take, maxLen]; omega) (fun k => (fun _ => False) k ∨ oks k) (fun w' v' h => h) (by rintro k_ (hk_ | hk_); exact .inl hk_; exact .inr hk_) ?_
            clear hF hH; intro a w v19 hF hH
            clear hS; have hS : SL _ _ := SL.of hH (sub_nil _); refine ⟨hS, ?_⟩
            rw [List.nil_append] at hH
            refine r_do 16 rfl (by kernel_rfl) rfl rfl ?_
            refine w_append 12 2 (xs := (S.take (fnd S n).toNat)) (ys := (S.drop (((fnd S n) + 1).toNat))) hF hH rfl Try.underlying59 ty115 rfl rfl rfl rfl ((Rd.drop ((hH.rd 2 rfl)) (by omega : ((fnd S n) + 1).toNat ≤ S.length))) (by intro k_ hk_; exact .inr hk_) (hF.tmp 19 rfl) (hF.tmp 26 rfl) (by simp only [List.length_drop, List.length_take]; omega) (by simp only [List.length_drop, List.length_take, maxLen]; omega) (fun k => (fun k => (fun _ => False) k ∨ oks k) k ∨ oks k) (fun w' v' h => h) (by rintro k_ (hk_ | hk_); exact .inl hk_; exact .inr hk_) ?_
            clear hF hH; intro a w v27 hF hH
            clear hS; have hS : SL _ _ := SL.of hH (sub_nil _); refine ⟨hS, ?_⟩
            obtain ⟨A27, c27, rfl⟩ := (hH.row 12 rfl).form
            have hb27 : ∀ k, (Value.slice A27 ((S.take (fnd S n).toNat) ++ (S.drop (fnd S n + 1).toNat)).length c27).ownBlock = some k → _ := hH.mine 12 _ rfl
            have hH := hH.freeze 12 rfl (fun k => (fun k => (fun k => (fun _ => False) k ∨ oks k) k ∨ oks k) k ∨ (Value.slice A27 ((S.take (fnd S n).toNat) ++ (S.drop (fnd S n + 1).toNat)).length c27).ownBlock = some k) (fun k => Iff.rfl)
            have hH := hH.subrd 12 rfl 2 (hH.rd 12 rfl) (fun _ h => h)
            refine r_take 17 hF rfl rfl rfl (by kernel_rfl) (by kernel_rfl) (by kernel_rfl) (fun _ _ _ h => h) rfl hS (fun w hS => x_nil (hF.tmp 11 rfl)) rfl ?_; clear hF; intro a hF
            refine r_take 18 hF rfl rfl rfl (by kernel_rfl) (by kernel_rfl) (by kernel_rfl) (fun _ _ _ h => h) rfl hS (fun w hS => x_faddr Try.underlying61 rfl ty59 (by decide) (hF.tmp 28 rfl) rfl) rfl ?_; clear hF; intro a hF
            refine r_do 19 rfl (by kernel_rfl) rfl rfl ?_
            refine w_store 1 hH ty59 rfl (hF.tmp 29 rfl) (hF.tmp 27 rfl) rfl (one1 rfl rfl) (by first | decide | exact Nat.le_of_ble_eq_true rfl) ?_
            clear hH; intro w hH
            clear hS; have hS : SL _ _ := SL.of hH (sub_nil _); refine ⟨hS, ?_⟩
            refine r_end (by kernel_rfl) ?_; clear hS
            refine hK6 _ _ ?_
            refine wp_seq_k fun khK34 hK34 => ?_
            refine wp_region_lit ?_
            refine l_at hF rfl rfl rfl (x_assign rfl) ?_; clear hF; intro a hF
            refine wpList_nil ?_
            refine hK34 _ _ ?_
            refine wp_ret ?_
            try simp only [Exit.then, Exit.inBlock]
            have hE_ := at_of hat.2.2
            have hM_ := (remS_on hat.2.2).resolve_right hc10
            refine fin_ret hF (res1 hF rfl rfl) ⟨Asn.all [(1, .blk bd (.cells #[.slice A27 ((S.take (fnd S n).toNat) ++ (S.drop (fnd S n + 1).toNat)).length c27, .slice Ar rt.length cr] 61 (0, 0))), (2, .rd_ SgE A27 ((S.take (fnd S n).toNat) ++ (S.drop (fnd S n + 1).toNat)) c27 (fun k => (fun k => (fun k => (fun _ => False) k ∨ oks k) k ∨ oks k) k ∨ (Value.slice A27 ((S.take (fnd S n).toNat) ++ (S.drop (fnd S n + 1).toNat)).length c27).ownBlock = some k)), (3, .rd_ (.int .u8) Ar rt cr okr)], by rw [hE_] <;> rfl, by rw [hM_]; exact ⟨_, _, _, _, _, _, rfl⟩, grew_of (hH.sub [(1, .blk bd (.cells #[.slice A27 ((S.take (fnd S n).toNat) ++ (S.drop (fnd S n + 1).toNat)).length c27, .slice Ar rt.length cr] 61 (0, 0))), (2, .rd_ SgE A27 ((S.take (fnd S n).toNat) ++ (S.drop (fnd S n + 1).toNat)) c27 (fun k => (fun k => (fun k => (fun _ => False) k ∨ oks k) k ∨ oks k) k ∨ (Value.slice A27 ((S.take (fnd S n).toNat) ++ (S.drop (fnd S n + 1).toNat)).length c27).ownBlock = some k)), (3, .rd_ (.int .u8) Ar rt cr okr)] (sub_cons (sub_cons (sub_cons (sub_nil _) 3 rfl) 2 rfl) 1 rfl)) (rdin_cons (fun k h => h.elim) (rdin_cons (fun k h => h.elim (fun h => h.elim (fun h => h.elim (fun h => h.elim) (fun h => .inr (.inl ⟨2, _, rfl, h⟩))) (fun h => .inr (.inl ⟨2, _, rfl, h⟩))) (fun h => (hb27 k h).elim .inl (fun h => .inr (.inr (.inr h))))) (rdin_cons (fun k h => .inr (.inl ⟨3, _, rfl, h⟩)) rdin_nil)))⟩
        ·
          refine w_at hF (x_slice_l (E := SgE) Try.underlying59 ty115 (hF.tmp 23 rfl) (hF.tmp 25 rfl) (by omega) (by omega) ((hH.rd 2 rfl)).1) rfl rfl ?_
          clear hF; intro a hF
          clear hS; have hS : SL _ _ := SL.of hH (sub_nil _); refine ⟨hS, ?_⟩
          refine r_do2 1 7 rfl rfl (by kernel_rfl) rfl rfl rfl rfl ?_ ?_
          ·
            refine w_lit0 SgE 12 hF hH rfl Try.underlying59 ty115 ?_
            clear hF hH; intro a w b12 hF hH
            clear hS; have hS : SL _ _ := SL.of hH (sub_nil _); refine ⟨hS, ?_⟩
            refine r_do 7 rfl (by kernel_rfl) rfl rfl ?_
            refine w_at hF (x_slice_h Try.underlying59 ty115 (hF.tmp 16 rfl) (hF.tmp 17 rfl) (by omega) (by omega) ((hH.rd 2 rfl)).1) rfl rfl ?_
            clear hF; intro a hF
            clear hS; have hS : SL _ _ := SL.of hH (sub_nil _); refine ⟨hS, ?_⟩
            refine r_do 8 rfl (by kernel_rfl) rfl rfl ?_
            refine w_append 12 2 (xs := ([])) (ys := (S.take ((fnd S n).toNat))) hF hH rfl Try.underlying59 ty115 rfl rfl rfl rfl ((Rd.take ((hH.rd 2 rfl)) ((fnd S n).toNat))) (by intro k_ hk_; exact .inr hk_) (hF.tmp 12 rfl) (hF.tmp 18 rfl) (by simp only [List.length_nil, List.length_take]; omega) (by simp only [List.length_nil, List.length_take, maxLen]; omega) (fun k => (fun _ => False) k ∨ oks k) (fun w' v' h => h) (by rintro k_ (hk_ | hk_); exact .inl hk_; exact .inr hk_) ?_
            clear hF hH; intro a w v19 hF hH
            clear hS; have hS : SL _ _ := SL.of hH (sub_nil _); refine ⟨hS, ?_⟩
            rw [List.nil_append] at hH
            refine r_do 16 rfl (by kernel_rfl) rfl rfl ?_
            refine w_append 12 2 (xs := (S.take (fnd S n).toNat)) (ys := (S.drop (((fnd S n) + 1).toNat))) hF hH rfl Try.underlying59 ty115 rfl rfl rfl rfl ((Rd.drop ((hH.rd 2 rfl)) (by omega : ((fnd S n) + 1).toNat ≤ S.length))) (by intro k_ hk_; exact .inr hk_) (hF.tmp 19 rfl) (hF.tmp 26 rfl) (by simp only [List.length_drop, List.length_take]; omega) (by simp only [List.length_drop, List.length_take, maxLen]; omega) (fun k => (fun k => (fun _ => False) k ∨ oks k) k ∨ oks k) (fun w' v' h => h) (by rintro k_ (hk_ | hk_); exact .inl hk_; exact .inr hk_) ?_
            clear hF hH; intro a w v27 hF hH
            clear hS; have hS : SL _ _ := SL.of hH (sub_nil _); refine ⟨hS, ?_⟩
            obtain ⟨A27, c27, rfl⟩ := (hH.row 12 rfl).form
            have hb27 : ∀ k, (Value.slice A27 ((S.take (fnd S n).toNat) ++ (S.drop (fnd S n + 1).toNat)).length c27).ownBlock = some k → _ := hH.mine 12 _ rfl
            have hH := hH.freeze 12 rfl (fun k => (fun k => (fun k => (fun _ => False) k ∨ oks k) k ∨ oks k) k ∨ (Value.slice A27 ((S.take (fnd S n).toNat) ++ (S.drop (fnd S n + 1).toNat)).length c27).ownBlock = some k) (fun k => Iff.rfl)
            have hH := hH.subrd 12 rfl 2 (hH.rd 12 rfl) (fun _ h => h)
            refine r_take 17 hF rfl rfl rfl (by kernel_rfl) (by kernel_rfl) (by kernel_rfl) (fun _ _ _ h => h) rfl hS (fun w hS => x_nil (hF.tmp 11 rfl)) rfl ?_; clear hF; intro a hF
            refine r_take 18 hF rfl rfl rfl (by kernel_rfl) (by kernel_rfl) (by kernel_rfl) (fun _ _ _ h => h) rfl hS (fun w hS => x_faddr Try.underlying61 rfl ty59 (by decide) (hF.tmp 28 rfl) rfl) rfl ?_; clear hF; intro a hF
            refine r_do 19 rfl (by kernel_rfl) rfl rfl ?_
            refine w_store 1 hH ty59 rfl (hF.tmp 29 rfl) (hF.tmp 27 rfl) rfl (one1 rfl rfl) (by first | decide | exact Nat.le_of_ble_eq_true rfl) ?_
            clear hH; intro w hH
            clear hS; have hS : SL _ _ := SL.of hH (sub_nil _); refine ⟨hS, ?_⟩
            refine r_end (by kernel_rfl) ?_; clear hS
            refine hK6 _ _ ?_
            refine wp_seq_k fun khK35 hK35 => ?_
            refine wp_region_lit ?_
            refine l_at hF rfl rfl rfl (x_assign rfl) ?_; clear hF; intro a hF
            refine wpList_nil ?_
            refine hK35 _ _ ?_
            refine wp_ret ?_
            try simp only [Exit.then, Exit.inBlock]
            have hE_ := at_of hat.2.2
            have hM_ := (remS_on hat.2.2).resolve_right hc10
            refine fin_ret hF (res1 hF rfl rfl) ⟨Asn.all [(1, .blk bd (.cells #[.slice A27 ((S.take (fnd S n).toNat) ++ (S.drop (fnd S n + 1).toNat)).length c27, .slice Ar rt.length cr] 61 (0, 0))), (2, .rd_ SgE A27 ((S.take (fnd S n).toNat) ++ (S.drop (fnd S n + 1).toNat)) c27 (fun k => (fun k => (fun k => (fun _ => False) k ∨ oks k) k ∨ oks k) k ∨ (Value.slice A27 ((S.take (fnd S n).toNat) ++ (S.drop (fnd S n + 1).toNat)).length c27).ownBlock = some k)), (3, .rd_ (.int .u8) Ar rt cr okr)], by rw [hE_] <;> rfl, by rw [hM_]; exact ⟨_, _, _, _, _, _, rfl⟩, grew_of (hH.sub [(1, .blk bd (.cells #[.slice A27 ((S.take (fnd S n).toNat) ++ (S.drop (fnd S n + 1).toNat)).length c27, .slice Ar rt.length cr] 61 (0, 0))), (2, .rd_ SgE A27 ((S.take (fnd S n).toNat) ++ (S.drop (fnd S n + 1).toNat)) c27 (fun k => (fun k => (fun k => (fun _ => False) k ∨ oks k) k ∨ oks k) k ∨ (Value.slice A27 ((S.take (fnd S n).toNat) ++ (S.drop (fnd S n + 1).toNat)).length c27).ownBlock = some k)), (3, .rd_ (.int .u8) Ar rt cr okr)] (sub_cons (sub_cons (sub_cons (sub_nil _) 3 rfl) 2 rfl) 1 rfl)) (rdin_cons (fun k h => h.elim) (rdin_cons (fun k h => h.elim (fun h => h.elim (fun h => h.elim (fun h => h.elim) (fun h => .inr (.inl ⟨2, _, rfl, h⟩))) (fun h => .inr (.inl ⟨2, _, rfl, h⟩))) (fun h => (hb27 k h).elim .inl (fun h => .inr (.inr (.inr h))))) (rdin_cons (fun k h => .inr (.inl ⟨3, _, rfl, h⟩)) rdin_nil)))⟩
          ·
            refine w_at hF (x_slice_h Try.underlying59 ty115 (hF.tmp 16 rfl) (hF.tmp 17 rfl) (by omega) (by omega) ((hH.rd 2 rfl)).1) rfl rfl ?_
            clear hF; intro a hF
            clear hS; have hS : SL _ _ := SL.of hH (sub_nil _); refine ⟨hS, ?_⟩
            refine r_do 1 rfl (by kernel_rfl) rfl rfl ?_
            refine w_lit0 SgE 12 hF hH rfl Try.underlying59 ty115 ?_
            clear hF hH; intro a w b12 hF hH
            clear hS; have hS : SL _ _ := SL.of hH (sub_nil _); refine ⟨hS, ?_⟩
            refine r_do 8 rfl (by kernel_rfl) rfl rfl ?_
            refine w_append 12 2 (xs := ([])) (ys := (S.take ((fnd S n).toNat))) hF hH rfl Try.underlying59 ty115 rfl rfl rfl rfl ((Rd.take ((hH.rd 2 rfl)) ((fnd S n).toNat))) (by intro k_ hk_; exact .inr hk_) (hF.tmp 12 rfl) (hF.tmp 18 rfl) (by simp only [List.length_nil, List.length_take]; omega) (by simp only [List.length_nil, List.length_take, maxLen]; omega) (fun k => (fun _ => False) k ∨ oks k) (fun w' v' h => h) (by rintro k_ (hk_ | hk_); exact .inl hk_; exact .inr hk_) ?_
            clear hF hH; intro a w v19 hF hH
            clear hS; have hS : SL _ _ := SL.of hH (sub_nil _); refine ⟨hS, ?_⟩
            rw [List.nil_append] at hH
            refine r_do 16 rfl (by kernel_rfl) rfl rfl ?_
            refine w_append 12 2 (xs := (S.take (fnd S n).toNat)) (ys := (S.drop (((fnd S n) + 1).toNat))) hF hH rfl Try.underlying59 ty115 rfl rfl rfl rfl ((Rd.drop ((hH.rd 2 rfl)) (by omega : ((fnd S n) + 1).toNat ≤ S.length))) (by intro k_ hk_; exact .inr hk_) (hF.tmp 19 rfl) (hF.tmp 26 rfl) (by simp only [List.length_drop, List.length_take]; omega) (by simp only [List.length_drop, List.length_take, maxLen]; omega) (fun k => (fun k => (fun _ => False) k ∨ oks k) k ∨ oks k) (fun w' v' h => h) (by rintro k_ (hk_ | hk_); exact .inl hk_; exact .inr hk_) ?_
            clear hF hH; intro a w v27 hF hH
            clear hS; have hS : SL _ _ := SL.of hH (sub_nil _); refine ⟨hS, ?_⟩
            obtain ⟨A27, c27, rfl⟩ := (hH.row 12 rfl).form
            have hb27 : ∀ k, (Value.slice A27 ((S.take (fnd S n).toNat) ++ (S.drop (fnd S n + 1).toNat)).length c27).ownBlock = some k → _ := hH.mine 12 _ rfl
            have hH := hH.freeze 12 rfl (fun k => (fun k => (fun k => (fun _ => False) k ∨ oks k) k ∨ oks k) k ∨ (Value.slice A27 ((S.take (fnd S n).toNat) ++ (S.drop (fnd S n + 1).toNat)).length c27).ownBlock = some k) (fun k => Iff.rfl)
            have hH := hH.subrd 12 rfl 2 (hH.rd 12 rfl) (fun _ h => h)
            refine r_take 17 hF rfl rfl rfl (by kernel_rfl) (by kernel_rfl) (by kernel_rfl) (fun _ _ _ h => h) rfl hS (fun w hS => x_nil (hF.tmp 11 rfl)) rfl ?_; clear hF; intro a hF
            refine r_take 18 hF rfl rfl rfl (by kernel_rfl) (by kernel_rfl) (by kernel_rfl) (fun _ _ _ h => h) rfl hS (fun w hS => x_faddr Try.underlying61 rfl ty59 (by decide) (hF.tmp 28 rfl) rfl) rfl ?_; clear hF; intro a hF
            refine r_do 19 rfl (by kernel_rfl) rfl rfl ?_
            refine w_store 1 hH ty59 rfl (hF.tmp 29 rfl) (hF.tmp 27 rfl) rfl (one1 rfl rfl) (by first | decide | exact Nat.le_of_ble_eq_true rfl) ?_
            clear hH; intro w hH
            clear hS; have hS : SL _ _ := SL.of hH (sub_nil _); refine ⟨hS, ?_⟩
            refine r_end (by kernel_rfl) ?_; clear hS
            refine hK6 _ _ ?_
            refine wp_seq_k fun khK36 hK36 => ?_
            refine wp_region_lit ?_
            refine l_at hF rfl rfl rfl (x_assign rfl) ?_; clear hF; intro a hF
            refine wpList_nil ?_
            refine hK36 _ _ ?_
            refine wp_ret ?_
            try simp only [Exit.then, Exit.inBlock]
            have hE_ := at_of hat.2.2
            have hM_ := (remS_on hat.2.2).resolve_right hc10
            refine fin_ret hF (res1 hF rfl rfl) ⟨Asn.all [(1, .blk bd (.cells #[.slice A27 ((S.take (fnd S n).toNat) ++ (S.drop (fnd S n + 1).toNat)).length c27, .slice Ar rt.length cr] 61 (0, 0))), (2, .rd_ SgE A27 ((S.take (fnd S n).toNat) ++ (S.drop (fnd S n + 1).toNat)) c27 (fun k => (fun k => (fun k => (fun _ => False) k ∨ oks k) k ∨ oks k) k ∨ (Value.slice A27 ((S.take (fnd S n).toNat) ++ (S.drop (fnd S n + 1).toNat)).length c27).ownBlock = some k)), (3, .rd_ (.int .u8) Ar rt cr okr)], by rw [hE_] <;> rfl, by rw [hM_]; exact ⟨_, _, _, _, _, _, rfl⟩, grew_of (hH.sub [(1, .blk bd (.cells #[.slice A27 ((S.take (fnd S n).toNat) ++ (S.drop (fnd S n + 1).toNat)).length c27, .slice Ar rt.length cr] 61 (0, 0))), (2, .rd_ SgE A27 ((S.take (fnd S n).toNat) ++ (S.drop (fnd S n + 1).toNat)) c27 (fun k => (fun k => (fun k => (fun _ => False) k ∨ oks k) k ∨ oks k) k ∨ (Value.slice A27 ((S.take (fnd S n).toNat) ++ (S.drop (fnd S n + 1).toNat)).length c27).ownBlock = some k)), (3, .rd_ (.int .u8) Ar rt cr okr)] (sub_cons (sub_cons (sub_cons (sub_nil _) 3 rfl) 2 rfl) 1 rfl)) (rdin_cons (fun k h => h.elim) (rdin_cons (fun k h => h.elim (fun h => h.elim (fun h => h.elim (fun h => h.elim) (fun h => .inr (.inl ⟨2, _, rfl, h⟩))) (fun h => .inr (.inl ⟨2, _, rfl, h⟩))) (fun h => (hb27 k h).elim .inl (fun h => .inr (.inr (.inr h))))) (rdin_cons (fun k h => .inr (.inl ⟨3, _, rfl, h⟩)) rdin_nil)))⟩
    ·
      refine w_at hF (x_load1 ty59 (hF.tmp 22 rfl) (blk_cell (hH.at 1 rfl) 0 rfl)) rfl rfl ?_
      clear hF; intro a hF
      clear hS; have hS : SL _ _ := SL.of hH (sub_nil _); refine ⟨hS, ?_⟩
      refine r_do3 1 5 15 rfl rfl rfl (by kernel_rfl) rfl rfl rfl rfl rfl rfl ?_ ?_ ?_
      ·
        refine w_lit0 SgE 12 hF hH rfl Try.underlying59 ty115 ?_
        clear hF hH; intro a w b12 hF hH
        clear hS; have hS : SL _ _ := SL.of hH (sub_nil _); refine ⟨hS, ?_⟩
        refine r_do2 5 15 rfl rfl (by kernel_rfl) rfl rfl rfl rfl ?_ ?_
        ·
          refine w_at hF (x_load1 ty59 (hF.tmp 15 rfl) (blk_cell (hH.at 1 rfl) 0 rfl)) rfl rfl ?_
          clear hF; intro a hF
          clear hS; have hS : SL _ _ := SL.of hH (sub_nil _); refine ⟨hS, ?_⟩
          refine r_do2 7 15 rfl rfl (by kernel_rfl) rfl rfl rfl rfl ?_ ?_
          ·
            refine w_at hF (x_slice_h Try.underlying59 ty115 (hF.tmp 16 rfl) (hF.tmp 17 rfl) (by omega) (by omega) ((hH.rd 2 rfl)).1) rfl rfl ?_
            clear hF; intro a hF
            clear hS; have hS : SL _ _ := SL.of hH (sub_nil _); refine ⟨hS, ?_⟩
            refine r_do2 8 15 rfl rfl (by kernel_rfl) rfl rfl rfl rfl ?_ ?_
            ·
              refine w_append 12 2 (xs := ([])) (ys := (S.take ((fnd S n).toNat))) hF hH rfl Try.underlying59 ty115 rfl rfl rfl rfl ((Rd.take ((hH.rd 2 rfl)) ((fnd S n).toNat))) (by intro k_ hk_; exact .inr hk_) (hF.tmp 12 rfl) (hF.tmp 18 rfl) (by simp only [List.length_nil, List.length_take]; omega) (by simp only [List.length_nil, List.length_take, maxLen]; omega) (fun k => (fun _ => False) k ∨ oks k) (fun w' v' h => h) (by rintro k_ (hk_ | hk_); exact .inl hk_; exact .inr hk_) ?_
              clear hF hH; intro a w v19 hF hH
              clear hS; have hS : SL _ _ := SL.of hH (sub_nil _); refine ⟨hS, ?_⟩
              rw [List.nil_append] at hH
              refine r_do 15 rfl (by kernel_rfl) rfl rfl ?_
              refine w_at hF (x_slice_l (E := SgE) Try.underlying59 ty115 (hF.tmp 23 rfl) (hF.tmp 25 rfl) (by omega) (by omega) ((hH.rd 2 rfl)).1) rfl rfl ?_
              clear hF; intro a hF
              clear hS; have hS : SL _ _ := SL.of hH (sub_nil _); refine ⟨hS, ?_⟩
              refine r_do 16 rfl (by kernel_rfl) rfl rfl ?_
              refine w_append 12 2 (xs := (S.take (fnd S n).toNat)) (ys := (S.drop (((fnd S n) + 1).toNat))) hF hH rfl Try.underlying59 ty115 rfl rfl rfl rfl ((Rd.drop ((hH.rd 2 rfl)) (by omega : ((fnd S n) + 1).toNat ≤ S.length))) (by intro k_ hk_; exact .inr hk_) (hF.tmp 19 rfl) (hF.tmp 26 rfl) (by simp only [List.length_drop, List.length_take]; omega) (by simp only [List.length_drop, List.length_take, maxLen]; omega) (fun k => (fun k => (fun _ => False) k ∨ oks k) k ∨ oks k) (fun w' v' h => h) (by rintro k_ (hk_ | hk_); exact .inl hk_; exact .inr hk_) ?_
              clear hF hH; intro a w v27 hF hH
              clear hS; have hS : SL _ _ := SL.of hH (sub_nil _); refine ⟨hS, ?_⟩
              obtain ⟨A27, c27, rfl⟩ := (hH.row 12 rfl).form
              have hb27 : ∀ k, (Value.slice A27 ((S.take (fnd S n).toNat) ++ (S.drop (fnd S n + 1).toNat)).length c27).ownBlock = some k → _ := hH.mine 12 _ rfl
              have hH := hH.freeze 12 rfl (fun k => (fun k => (fun k => (fun _ => False) k ∨ oks k) k ∨ oks k) k ∨ (Value.slice A27 ((S.take (fnd S n).toNat) ++ (S.drop (fnd S n + 1).toNat)).length c27).ownBlock = some k) (fun k => Iff.rfl)
              have hH := hH.subrd 12 rfl 2 (hH.rd 12 rfl) (fun _ h => h)
              refine r_take 17 hF rfl rfl rfl (by kernel_rfl) (by kernel_rfl) (by kernel_rfl) (fun _ _ _ h => h) rfl hS (fun w hS => x_nil (hF.tmp 11 rfl)) rfl ?_; clear hF; intro a hF
              refine r_take 18 hF rfl rfl rfl (by kernel_rfl) (by kernel_rfl) (by kernel_rfl) (fun _ _ _ h => h) rfl hS (fun w hS => x_faddr Try.underlying61 rfl ty59 (by decide) (hF.tmp 28 rfl) rfl) rfl ?_; clear hF; intro a hF
              refine r_do 19 rfl (by kernel_rfl) rfl rfl ?_
              refine w_store 1 hH ty59 rfl (hF.tmp 29 rfl) (hF.tmp 27 rfl) rfl (one1 rfl rfl) (by first | decide | exact Nat.le_of_ble_eq_true rfl) ?_
              clear hH; intro w hH
              clear hS; have hS : SL _ _ := SL.of hH (sub_nil _); refine ⟨hS, ?_⟩
              refine r_end (by kernel_rfl) ?_; clear hS
              refine hK6 _ _ ?_
              refine wp_seq_k fun khK37 hK37 => ?_
              refine wp_region_lit ?_
              refine l_at hF rfl rfl rfl (x_assign rfl) ?_; clear hF; intro a hF
              refine wpList_nil ?_
              refine hK37 _ _ ?_
              refine wp_ret ?_
              try simp only [Exit.then, Exit.inBlock]
              have hE_ := at_of hat.2.2
              have hM_ := (remS_on hat.2.2).resolve_right hc10
              refine fin_ret hF (res1 hF rfl rfl) ⟨Asn.all [(1, .blk bd (.cells #[.slice A27 ((S.take (fnd S n).toNat) ++ (S.drop (fnd S n + 1).toNat)).length c27, .slice Ar rt.length cr] 61 (0, 0))), (2, .rd_ SgE A27 ((S.take (fnd S n).toNat) ++ (S.drop (fnd S n + 1).toNat)) c27 (fun k => (fun k => (fun k => (fun _ => False) k ∨ oks k) k ∨ oks k) k ∨ (Value.slice A27 ((S.take (fnd S n).toNat) ++ (S.drop (fnd S n + 1).toNat)).length c27).ownBlock = some k)), (3, .rd_ (.int .u8) Ar rt cr okr)], by rw [hE_] <;> rfl, by rw [hM_]; exact ⟨_, _, _, _, _, _, rfl⟩, grew_of (hH.sub [(1, .blk bd (.cells #[.slice A27 ((S.take (fnd S n).toNat) ++ (S.drop (fnd S n + 1).toNat)).length c27, .slice Ar rt.length cr] 61 (0, 0))), (2, .rd_ SgE A27 ((S.take (fnd S n).toNat) ++ (S.drop (fnd S n + 1).toNat)) c27 (fun k => (fun k => (fun k => (fun _ => False) k ∨ oks k) k ∨ oks k) k ∨ (Value.slice A27 ((S.take (fnd S n).toNat) ++ (S.drop (fnd S n + 1).toNat)).length c27).ownBlock = some k)), (3, .rd_ (.int .u8) Ar rt cr okr)] (sub_cons (sub_cons (sub_cons (sub_nil _) 3 rfl) 2 rfl) 1 rfl)) (rdin_cons (fun k h => h.elim) (rdin_cons (fun k h => h.elim (fun h => h.elim (fun h => h.elim (fun h => h.elim) (fun h => .inr (.inl ⟨2, _, rfl, h⟩))) (fun h => .inr (.inl ⟨2, _, rfl, h⟩))) (fun h => (hb27 k h).elim .inl (fun h => .inr (.inr (.inr h))))) (rdin_cons (fun k h => .inr (.inl ⟨3, _, rfl, h⟩)) rdin_nil)))⟩
            ·
              refine w_at hF (x_slice_l (E := SgE) Try.underlying59 ty115 (hF.tmp 23 rfl) (hF.tmp 25 rfl) (by omega) (by omega) ((hH.rd 2 rfl)).1) rfl rfl ?_
              clear hF; intro a hF
              clear hS; have hS : SL _ _ := SL.of hH (sub_nil _); refine ⟨hS, ?_⟩
              refine r_do 8 rfl (by kernel_rfl) rfl rfl ?_
              refine w_append 12 2 (xs := ([])) (ys := (S.take ((fnd S n).toNat))) hF hH rfl Try.underlying59 ty115 rfl rfl rfl rfl ((Rd.take ((hH.rd 2 rfl)) ((fnd S n).toNat))) (by intro k_ hk_; exact .inr hk_) (hF.tmp 12 rfl) (hF.tmp 18 rfl) (by simp only [List.length_nil, List.length_take]; omega) (by simp only [List.length_nil, List.length_take, maxLen]; omega) (fun k => (fun _ => False) k ∨ oks k) (fun w' v' h => h) (by rintro k_ (hk_ | hk_); exact .inl hk_; exact .inr hk_) ?_
              clear hF hH; intro a w v19 hF hH
              clear hS; have hS : SL _ _ := SL.of hH (sub_nil _); refine ⟨hS, ?_⟩
              rw [List.nil_append] at hH
              refine r_do 16 rfl (by kernel_rfl) rfl rfl ?_
              refine w_append 12 2 (xs := (S.take (fnd S n).toNat)) (ys := (S.drop (((fnd S n) + 1).toNat))) hF hH rfl Try.underlying59 ty115 rfl rfl rfl rfl ((Rd.drop ((hH.rd 2 rfl)) (by omega : ((fnd S n) + 1).toNat ≤ S.length))) (by intro k_ hk_; exact .inr hk_) (hF.tmp 19 rfl) (hF.tmp 26 rfl) (by simp only [List.length_drop, List.length_take]; omega) (by simp only [List.length_drop, List.length_take, maxLen]; omega) (fun k => (fun k => (fun _ => False) k ∨ oks k) k ∨ oks k) (fun w' v' h => h) (by rintro k_ (hk_ | hk_); exact .inl hk_; exact .inr hk_) ?_
              clear hF hH; intro a w v27 hF hH
              clear hS; have hS : SL _ _ := SL.of hH (sub_nil _); refine ⟨hS, ?_⟩
              obtain ⟨A27, c27, rfl⟩ := (hH.row 12 rfl).form
              have hb27 : ∀ k, (Value.slice A27 ((S.take (fnd S n).toNat) ++ (S.drop (fnd S n + 1).toNat)).length c27).ownBlock = some k → _ := hH.mine 12 _ rfl
              have hH := hH.freeze 12 rfl (fun k => (fun k => (fun k => (fun _ => False) k ∨ oks k) k ∨ oks k) k ∨ (Value.slice A27 ((S.take (fnd S n).toNat) ++ (S.drop (fnd S n + 1).toNat)).length c27).ownBlock = some k) (fun k => Iff.rfl)
              have hH := hH.subrd 12 rfl 2 (hH.rd 12 rfl) (fun _ h => h)
              refine r_take 17 hF rfl rfl rfl (by kernel_rfl) (by kernel_rfl) (by kernel_rfl) (fun _ _ _ h => h) rfl hS (fun w hS => x_nil (hF.tmp 11 rfl)) rfl ?_; clear hF; intro a hF
              refine r_take 18 hF rfl rfl rfl (by kernel_rfl) (by kernel_rfl) (by kernel_rfl) (fun _ _ _ h => h) rfl hS (fun w hS => x_faddr Try.underlying61 rfl ty59 (by decide) (hF.tmp 28 rfl) rfl) rfl ?_; clear hF; intro a hF
              refine r_do 19 rfl (by kernel_rfl) rfl rfl ?_
              refine w_store 1 hH ty59 rfl (hF.tmp 29 rfl) (hF.tmp 27 rfl) rfl (one1 rfl rfl) (by first | decide | exact Nat.le_of_ble_eq_true rfl) ?_
              clear hH; intro w hH
              clear hS; have hS : SL _ _ := SL.of hH (sub_nil _); refine ⟨hS, ?_⟩
              refine r_end (by kernel_rfl) ?_; clear hS
              refine hK6 _ _ ?_
              refine wp_seq_k fun khK38 hK38 => ?_
              refine wp_region_lit ?_
              refine l_at hF rfl rfl rfl (x_assign rfl) ?_; clear hF; intro a hF
              refine wpList_nil ?_
              refine hK38 _ _ ?_
              refine wp_ret ?_
              try simp only [Exit.then, Exit.inBlock]
              have hE_ := at_of hat.2.2
              have hM_ := (remS_on hat.2.2).resolve_right hc10
              refine fin_ret hF (res1 hF rfl rfl) ⟨Asn.all [(1, .blk bd (.cells #[.slice A27 ((S.take (fnd S n).toNat) ++ (S.drop (fnd S n + 1).toNat)).length c27, .slice Ar rt.length cr] 61 (0, 0))), (2, .rd_ SgE A27 ((S.take (fnd S n).toNat) ++ (S.drop (fnd S n + 1).toNat)) c27 (fun k => (fun k => (fun k => (fun _ => False) k ∨ oks k) k ∨ oks k) k ∨ (Value.slice A27 ((S.take (fnd S n).toNat) ++ (S.drop (fnd S n + 1).toNat)).length c27).ownBlock = some k)), (3, .rd_ (.int .u8) Ar rt cr okr)], by rw [hE_] <;> rfl, by rw [hM_]; exact ⟨_, _, _, _, _, _, rfl⟩, grew_of (hH.sub [(1, .blk bd (.cells #[.slice A27 ((S.take (fnd S n).toNat) ++ (S.drop (fnd S n + 1).toNat)).length c27, .slice Ar rt.length cr] 61 (0, 0))), (2, .rd_ SgE A27 ((S.take (fnd S n).toNat) ++ (S.drop (fnd S n + 1).toNat)) c27 (fun k => (fun k => (fun k => (fun _ => False) k ∨ oks k) k ∨ oks k) k ∨ (Value.slice A27 ((S.take (fnd S n).toNat) ++ (S.drop (fnd S n + 1).toNat)).length c27).ownBlock = some k)), (3, .rd_ (.int .u8) Ar rt cr okr)] (sub_cons (sub_cons (sub_cons (sub_nil _) 3 rfl) 2 rfl) 1 rfl)) (rdin_cons (fun k h => h.elim) (rdin_cons (fun k h => h.elim (fun h => h.elim (fun h => h.elim (fun h => h.elim) (fun h => .inr (.inl ⟨2, _, rfl, h⟩))) (fun h => .inr (.inl ⟨2, _, rfl, h⟩))) (fun h => (hb27 k h).elim .inl (fun h => .inr (.inr (.inr h))))) (rdin_cons (fun k h => .inr (.inl ⟨3, _, rfl, h⟩)) rdin_nil)))⟩
          ·
            refine w_at hF (x_slice_l (E := SgE) Try.underlying59 ty115 (hF.tmp 23 rfl) (hF.tmp 25 rfl) (by omega) (by omega) ((hH.rd 2 rfl)).1) rfl rfl ?_
            clear hF; intro a hF
            clear hS; have hS : SL _ _ := SL.of hH (sub_nil _); refine ⟨hS, ?_⟩
            refine r_do 7 rfl (by kernel_rfl) rfl rfl ?_
            refine w_at hF (x_slice_h Try.underlying59 ty115 (hF.tmp 16 rfl) (hF.tmp 17 rfl) (by omega) (by omega) ((hH.rd 2 rfl)).1) rfl rfl ?_
            clear hF; intro a hF
            clear hS; have hS : SL _ _ := SL.of hH (sub_nil _); refine ⟨hS, ?_⟩
            refine r_do 8 rfl (by kernel_rfl) rfl rfl ?_
            refine w_append 12 2 (xs := ([])) (ys := (S.take ((fnd S n).toNat))) hF hH rfl Try.underlying59 ty115 rfl rfl rfl rfl ((Rd.take ((hH.rd 2 rfl)) ((fnd S n).toNat))) (by intro k_ hk_; exact .inr hk_) (hF.tmp 12 rfl) (hF.tmp 18 rfl) (by simp only [List.length_nil, List.length_take]; omega) (by simp only [List.length_nil, List.length_take, maxLen]; omega) (fun k => (fun _ => False) k ∨ oks k) (fun w' v' h => h) (by rintro k_ (hk_ | hk_); exact .inl hk_; exact .inr hk_) ?_
            clear hF hH; intro a w v19 hF hH
            clear hS; have hS : SL _ _ := SL.of hH (sub_nil _); refine ⟨hS, ?_⟩
            rw [List.nil_append] at hH
            refine r_do 16 rfl (by kernel_rfl) rfl rfl ?_
            refine w_append 12 2 (xs := (S.take (fnd S n).toNat)) (ys := (S.drop (((fnd S n) + 1).toNat))) hF hH rfl Try.underlying59 ty115 rfl rfl rfl rfl ((Rd.drop ((hH.rd 2 rfl)) (by omega : ((fnd S n) + 1).toNat ≤ S.length))) (by intro k_ hk_; exact .inr hk_) (hF.tmp 19 rfl) (hF.tmp 26 rfl) (by simp only [List.length_drop, List.length_take]; omega) (by simp only [List.length_drop, List.length_take, maxLen]; omega) (fun k => (fun k => (fun _ => False) k ∨ oks k) k ∨ oks k) (fun w' v' h => h) (by rintro k_ (hk_ | hk_); exact .inl hk_; exact .inr hk_) ?_
            clear hF hH; intro a w v27 hF hH
            clear hS; have hS : SL _ _ := SL.of hH (sub_nil _); refine ⟨hS, ?_⟩
            obtain ⟨A27, c27, rfl⟩ := (hH.row 12 rfl).form
            have hb27 : ∀ k, (Value.slice A27 ((S.take (fnd S n).toNat) ++ (S.drop (fnd S n + 1).toNat)).length c27).ownBlock = some k → _ := hH.mine 12 _ rfl
            have hH := hH.freeze 12 rfl (fun k => (fun k => (fun k => (fun _ => False) k ∨ oks k) k ∨ oks k) k ∨ (Value.slice A27 ((S.take (fnd S n).toNat) ++ (S.drop (fnd S n + 1).toNat)).length c27).ownBlock = some k) (fun k => Iff.rfl)
            have hH := hH.subrd 12 rfl 2 (hH.rd 12 rfl) (fun _ h => h)
            refine r_take 17 hF rfl rfl rfl (by kernel_rfl) (by kernel_rfl) (by kernel_rfl) (fun _ _ _ h => h) rfl hS (fun w hS => x_nil (hF.tmp 11 rfl)) rfl ?_; clear hF; intro a hF
            refine r_take 18 hF rfl rfl rfl (by kernel_rfl) (by kernel_rfl) (by kernel_rfl) (fun _ _ _ h => h) rfl hS (fun w hS => x_faddr Try.underlying61 rfl ty59 (by decide) (hF.tmp 28 rfl) rfl) rfl ?_; clear hF; intro a hF
            refine r_do 19 rfl (by kernel_rfl) rfl rfl ?_
            refine w_store 1 hH ty59 rfl (hF.tmp 29 rfl) (hF.tmp 27 rfl) rfl (one1 rfl rfl) (by first | decide | exact Nat.le_of_ble_eq_true rfl) ?_
            clear hH; intro w hH
            clear hS; have hS : SL _ _ := SL.of hH (sub_nil _); refine ⟨hS, ?_⟩
            refine r_end (by kernel_rfl) ?_; clear hS
            refine hK6 _ _ ?_
            refine wp_seq_k fun khK39 hK39 => ?_
            refine wp_region_lit ?_
            refine l_at hF rfl rfl rfl (x_assign rfl) ?_; clear hF; intro a hF
            refine wpList_nil ?_
            refine hK39 _ _ ?_
            refine wp_ret ?_
            try simp only [Exit.then, Exit.inBlock]
            have hE_ := at_of hat.2.2
            have hM_ := (remS_on hat.2.2).resolve_right hc10
            refine fin_ret hF (res1 hF rfl rfl) ⟨Asn.all [(1, .blk bd (.cells #[.slice A27 ((S.take (fnd S n).toNat) ++ (S.drop (fnd S n + 1).toNat)).length c27, .slice Ar rt.length cr] 61 (0, 0))), (2, .rd_ SgE A27 ((S.take (fnd S n).toNat) ++ (S.drop (fnd S n + 1).toNat)) c27 (fun k => (fun k => (fun k => (fun _ => False) k ∨ oks k) k ∨ oks k) k ∨ (Value.slice A27 ((S.take (fnd S n).toNat) ++ (S.drop (fnd S n + 1).toNat)).length c27).ownBlock = some k)), (3, .rd_ (.int .u8) Ar rt cr okr)], by rw [hE_] <;> rfl, by rw [hM_]; exact ⟨_, _, _, _, _, _, rfl⟩, grew_of (hH.sub [(1, .blk bd (.cells #[.slice A27 ((S.take (fnd S n).toNat) ++ (S.drop (fnd S n + 1).toNat)).length c27, .slice Ar rt.length cr] 61 (0, 0))), (2, .rd_ SgE A27 ((S.take (fnd S n).toNat) ++ (S.drop (fnd S n + 1).toNat)) c27 (fun k => (fun k => (fun k => (fun _ => False) k ∨ oks k) k ∨ oks k) k ∨ (Value.slice A27 ((S.take (fnd S n).toNat) ++ (S.drop (fnd S n + 1).toNat)).length c27).ownBlock = some k)), (3, .rd_ (.int .u8) Ar rt cr okr)] (sub_cons (sub_cons (sub_cons (sub_nil _) 3 rfl) 2 rfl) 1 rfl)) (rdin_cons (fun k h => h.elim) (rdin_cons (fun k h => h.elim (fun h => h.elim (fun h => h.elim (fun h => h.elim) (fun h => .inr (.inl ⟨2, _, rfl, h⟩))) (fun h => .inr (.inl ⟨2, _, rfl, h⟩))) (fun h => (hb27 k h).elim .inl (fun h => .inr (.inr (.inr h))))) (rdin_cons (fun k h => .inr (.inl ⟨3, _, rfl, h⟩)) rdin_nil)))⟩
        ·
          refine w_at hF (x_slice_l (E := SgE) Try.underlying59 ty115 (hF.tmp 23 rfl) (hF.tmp 25 rfl) (by omega) (by omega) ((hH.rd 2 rfl)).1) rfl rfl ?_
          clear hF; intro a hF
          clear hS; have hS : SL _ _ := SL.of hH (sub_nil _); refine ⟨hS, ?_⟩
          refine r_do 5 rfl (by kernel_rfl) rfl rfl ?_
          refine w_at hF (x_load1 ty59 (hF.tmp 15 rfl) (blk_cell (hH.at 1 rfl) 0 rfl)) rfl rfl ?_
          clear hF; intro a hF
          clear hS; have hS : SL _ _ := SL.of hH (sub_nil _); refine ⟨hS, ?_⟩
          refine r_do 7 rfl (by kernel_rfl) rfl rfl ?_
          refine w_at hF (x_slice_h Try.underlying59 ty115 (hF.tmp 16 rfl) (hF.tmp 17 rfl) (by omega) (by omega) ((hH.rd 2 rfl)).1) rfl rfl ?_
          clear hF; intro a hF
          clear hS; have hS : SL _ _ := SL.of hH (sub_nil _); refine ⟨hS, ?_⟩
          refine r_do 8 rfl (by kernel_rfl) rfl rfl ?_
          refine w_append 12 2 (xs := ([])) (ys := (S.take ((fnd S n).toNat))) hF hH rfl Try.underlying59 ty115 rfl rfl rfl rfl ((Rd.take ((hH.rd 2 rfl)) ((fnd S n).toNat))) (by intro k_ hk_; exact .inr hk_) (hF.tmp 12 rfl) (hF.tmp 18 rfl) (by simp only [List.length_nil, List.length_take]; omega) (by simp only [List.length_nil, List.length_take, maxLen]; omega) (fun k => (fun _ => False) k ∨ oks k) (fun w' v' h => h) (by rintro k_ (hk_ | hk_); exact .inl hk_; exact .inr hk_) ?_
          clear hF hH; intro a w v19 hF hH
          clear hS; have hS : SL _ _ := SL.of hH (sub_nil _); refine ⟨hS, ?_⟩
          rw [List.nil_append] at hH
          refine r_do 16 rfl (by kernel_rfl) rfl rfl ?_
          refine w_append 12 2 (xs := (S.take (fnd S n).toNat)) (ys := (S.drop (((fnd S n) + 1).toNat))) hF hH rfl Try.underlying59 ty115 rfl rfl rfl rfl ((Rd.drop ((hH.rd 2 rfl)) (by omega : ((fnd S n) + 1).toNat ≤ S.length))) (by intro k_ hk_; exact .inr hk_) (hF.tmp 19 rfl) (hF.tmp 26 rfl) (by simp only [List.length_drop, List.length_take]; omega) (by simp only [List.length_drop, List.length_take, maxLen]; omega) (fun k => (fun k => (fun _ => False) k ∨ oks k) k ∨ oks k) (fun w' v' h => h) (by rintro k_ (hk_ | hk_); exact .inl hk_; exact .inr hk_) ?_
          clear hF hH; intro a w v27 hF hH
          clear hS; have hS : SL _ _ := SL.of hH (sub_nil _); refine ⟨hS, ?_⟩
          obtain ⟨A27, c27, rfl⟩ := (hH.row 12 rfl).form
          have hb27 : ∀ k, (Value.slice A27 ((S.take (fnd S n).toNat) ++ (S.drop (fnd S n + 1).toNat)).length c27).ownBlock = some k → _ := hH.mine 12 _ rfl
          have hH := hH.freeze 12 rfl (fun k => (fun k => (fun k => (fun _ => False) k ∨ oks k) k ∨ oks k) k ∨ (Value.slice A27 ((S.take (fnd S n).toNat) ++ (S.drop (fnd S n + 1).toNat)).length c27).ownBlock = some k) (fun k => Iff.rfl)
          have hH := hH.subrd 12 rfl 2 (hH.rd 12 rfl) (fun _ h => h)
          refine r_take 17 hF rfl rfl rfl (by kernel_rfl) (by kernel_rfl) (by kernel_rfl) (fun _ _ _ h => h) rfl hS (fun w hS => x_nil (hF.tmp 11 rfl)) rfl ?_; clear hF; intro a hF
          refine r_take 18 hF rfl rfl rfl (by kernel_rfl) (by kernel_rfl) (by kernel_rfl) (fun _ _ _ h => h) rfl hS (fun w hS => x_faddr Try.underlying61 rfl ty59 (by decide) (hF.tmp 28 rfl) rfl) rfl ?_; clear hF; intro a hF
          refine r_do 19 rfl (by kernel_rfl) rfl rfl ?_
          refine w_store 1 hH ty59 rfl (hF.tmp 29 rfl) (hF.tmp 27 rfl) rfl (one1 rfl rfl) (by first | decide | exact Nat.le_of_ble_eq_true rfl) ?_
          clear hH; intro w hH
          clear hS; have hS : SL _ _ := SL.of hH (sub_nil _); refine ⟨hS, ?_⟩
          refine r_end (by kernel_rfl) ?_; clear hS
          refine hK6 _ _ ?_
          refine wp_seq_k fun khK40 hK40 => ?_
          refine wp_region_lit ?_
          refine l_at hF rfl rfl rfl (x_assign rfl) ?_; clear hF; intro a hF
          refine wpList_nil ?_
          refine hK40 _ _ ?_
          refine wp_ret ?_
          try simp only [Exit.then, Exit.inBlock]
          have hE_ := at_of hat.2.2
          have hM_ := (remS_on hat.2.2).resolve_right hc10
          refine fin_ret hF (res1 hF rfl rfl) ⟨Asn.all [(1, .blk bd (.cells #[.slice A27 ((S.take (fnd S n).toNat) ++ (S.drop (fnd S n + 1).toNat)).length c27, .slice Ar rt.length cr] 61 (0, 0))), (2, .rd_ SgE A27 ((S.take (fnd S n).toNat) ++ (S.drop (fnd S n + 1).toNat)) c27 (fun k => (fun k => (fun k => (fun _ => False) k ∨ oks k) k ∨ oks k) k ∨ (Value.slice A27 ((S.take (fnd S n).toNat) ++ (S.drop (fnd S n + 1).toNat)).length c27).ownBlock = some k)), (3, .rd_ (.int .u8) Ar rt cr okr)], by rw [hE_] <;> rfl, by rw [hM_]; exact ⟨_, _, _, _, _, _, rfl⟩, grew_of (hH.sub [(1, .blk bd (.cells #[.slice A27 ((S.take (fnd S n).toNat) ++ (S.drop (fnd S n + 1).toNat)).length c27, .slice Ar rt.length cr] 61 (0, 0))), (2, .rd_ SgE A27 ((S.take (fnd S n).toNat) ++ (S.drop (fnd S n + 1).toNat)) c27 (fun k => (fun k => (fun k => (fun _ => False) k ∨ oks k) k ∨ oks k) k ∨ (Value.slice A27 ((S.take (fnd S n).toNat) ++ (S.drop (fnd S n + 1).toNat)).length c27).ownBlock = some k)), (3, .rd_ (.int .u8) Ar rt cr okr)] (sub_cons (sub_cons (sub_cons (sub_nil _) 3 rfl) 2 rfl) 1 rfl)) (rdin_cons (fun k h => h.elim) (rdin_cons (fun k h => h.elim (fun h => h.elim (fun h => h.elim (fun h => h.elim) (fun h => .inr (.inl ⟨2, _, rfl, h⟩))) (fun h => .inr (.inl ⟨2, _, rfl, h⟩))) (fun h => (hb27 k h).elim .inl (fun h => .inr (.inr (.inr h))))) (rdin_cons (fun k h => .inr (.inl ⟨3, _, rfl, h⟩)) rdin_nil)))⟩
      ·
        refine w_at hF (x_load1 ty59 (hF.tmp 15 rfl) (blk_cell (hH.at 1 rfl) 0 rfl)) rfl rfl ?_
        clear hF; intro a hF
        clear hS; have hS : SL _ _ := SL.of hH (sub_nil _); refine ⟨hS, ?_⟩
        refine r_do3 1 7 15 rfl rfl rfl (by kernel_rfl) rfl rfl rfl rfl rfl rfl ?_ ?_ ?_
        ·
          refine w_lit0 SgE 12 hF hH rfl Try.underlying59 ty115 ?_
          clear hF hH; intro a w b12 hF hH
          clear hS; have hS : SL _ _ := SL.of hH (sub_nil _); refine ⟨hS, ?_⟩
          refine r_do2 7 15 rfl rfl (by kernel_rfl) rfl rfl rfl rfl ?_ ?_
          ·
            refine w_at hF (x_slice_h Try.underlying59 ty115 (hF.tmp 16 rfl) (hF.tmp 17 rfl) (by omega) (by omega) ((hH.rd 2 rfl)).1) rfl rfl ?_
            clear hF; intro a hF
            clear hS; have hS : SL _ _ := SL.of hH (sub_nil _); refine ⟨hS, ?_⟩
            refine r_do2 8 15 rfl rfl (by kernel_rfl) rfl rfl rfl rfl ?_ ?_
            ·
              refine w_append 12 2 (xs := ([])) (ys := (S.take ((fnd S n).toNat))) hF hH rfl Try.underlying59 ty115 rfl rfl rfl rfl ((Rd.take ((hH.rd 2 rfl)) ((fnd S n).toNat))) (by intro k_ hk_; exact .inr hk_) (hF.tmp 12 rfl) (hF.tmp 18 rfl) (by simp only [List.length_nil, List.length_take]; omega) (by simp only [List.length_nil, List.length_take, maxLen]; omega) (fun k => (fun _ => False) k ∨ oks k) (fun w' v' h => h) (by rintro k_ (hk_ | hk_); exact .inl hk_; exact .inr hk_) ?_
              clear hF hH; intro a w v19 hF hH
              clear hS; have hS : SL _ _ := SL.of hH (sub_nil _); refine ⟨hS, ?_⟩
              rw [List.nil_append] at hH
              refine r_do 15 rfl (by kernel_rfl) rfl rfl ?_
              refine w_at hF (x_slice_l (E := SgE) Try.underlying59 ty115 (hF.tmp 23 rfl) (hF.tmp 25 rfl) (by omega) (by omega) ((hH.rd 2 rfl)).1) rfl rfl ?_
              clear hF; intro a hF
              clear hS; have hS : SL _ _ := SL.of hH (sub_nil _); refine ⟨hS, ?_⟩
              refine r_do 16 rfl (by kernel_rfl) rfl rfl ?_
              refine w_append 12 2 (xs := (S.take (fnd S n).toNat)) (ys := (S.drop (((fnd S n) + 1).toNat))) hF hH rfl Try.underlying59 ty115 rfl rfl rfl rfl ((Rd.drop ((hH.rd 2 rfl)) (by omega : ((fnd S n) + 1).toNat ≤ S.length))) (by intro k_ hk_; exact .inr hk_) (hF.tmp 19 rfl) (hF.tmp 26 rfl) (by simp only [List.length_drop, List.length_take]; omega) (by simp only [List.length_drop, List.length_take, maxLen]; omega) (fun k => (fun k => (fun _ => False) k ∨ oks k) k ∨ oks k) (fun w' v' h => h) (by rintro k_ (hk_ | hk_); exact .inl hk_; exact .inr hk_) ?_
              clear hF hH; intro a w v27 hF hH
              clear hS; have hS : SL _ _ := SL.of hH (sub_nil _); refine ⟨hS, ?_⟩
              obtain ⟨A27, c27, rfl⟩ := (hH.row 12 rfl).form
              have hb27 : ∀ k, (Value.slice A27 ((S.take (fnd S n).toNat) ++ (S.drop (fnd S n + 1).toNat)).length c27).ownBlock = some k → _ := hH.mine 12 _ rfl
              have hH := hH.freeze 12 rfl (fun k => (fun k => (fun k => (fun _ => False) k ∨ oks k) k ∨ oks k) k ∨ (Value.slice A27 ((S.take (fnd S n).toNat) ++ (S.drop (fnd S n + 1).toNat)).length c27).ownBlock = some k) (fun k => Iff.rfl)
              have hH := hH.subrd 12 rfl 2 (hH.rd 12 rfl) (fun _ h => h)
              refine r_take 17 hF rfl rfl rfl (by kernel_rfl) (by kernel_rfl) (by kernel_rfl) (fun _ _ _ h => h) rfl hS (fun w hS => x_nil (hF.tmp 11 rfl)) rfl ?_; clear hF; intro a hF
              refine r_take 18 hF rfl rfl rfl (by kernel_rfl) (by kernel_rfl) (by kernel_rfl) (fun _ _ _ h => h) rfl hS (fun w hS => x_faddr Try.underlying61 rfl ty59 (by decide) (hF.tmp 28 rfl) rfl) rfl ?_; clear hF; intro a hF
              refine r_do 19 rfl (by kernel_rfl) rfl rfl ?_
              refine w_store 1 hH ty59 rfl (hF.tmp 29 rfl) (hF.tmp 27 rfl) rfl (one1 rfl rfl) (by first | decide | exact Nat.le_of_ble_eq_true rfl) ?_
              clear hH; intro w hH
              clear hS; have hS : SL _ _ := SL.of hH (sub_nil _); refine ⟨hS, ?_⟩
              refine r_end (by kernel_rfl) ?_; clear hS
              refine hK6 _ _ ?_
              refine wp_seq_k fun khK41 hK41 => ?_
              refine wp_region_lit ?_
              refine l_at hF rfl rfl rfl (x_assign rfl) ?_; clear hF; intro a hF
              refine wpList_nil ?_
              refine hK41 _ _ ?_
              refine wp_ret ?_
              try simp only [Exit.then, Exit.inBlock]
              have hE_ := at_of hat.2.2
              have hM_ := (remS_on hat.2.2).resolve_right hc10
              refine fin_ret hF (res1 hF rfl rfl) ⟨Asn.all [(1, .blk bd (.cells #[.slice A27 ((S.take (fnd S n).toNat) ++ (S.drop (fnd S n + 1).toNat)).length c27, .slice Ar rt.length cr] 61 (0, 0))), (2, .rd_ SgE A27 ((S.take (fnd S n).toNat) ++ (S.drop (fnd S n + 1).toNat)) c27 (fun k => (fun k => (fun k => (fun _ => False) k ∨ oks k) k ∨ oks k) k ∨ (Value.slice A27 ((S.take (fnd S n).toNat) ++ (S.drop (fnd S n + 1).toNat)).length c27).ownBlock = some k)), (3, .rd_ (.int .u8) Ar rt cr okr)], by rw [hE_] <;> rfl, by rw [hM_]; exact ⟨_, _, _, _, _, _, rfl⟩, grew_of (hH.sub [(1, .blk bd (.cells #[.slice A27 ((S.take (fnd S n).toNat) ++ (S.drop (fnd S n + 1).toNat)).length c27, .slice Ar rt.length cr] 61 (0, 0))), (2, .rd_ SgE A27 ((S.take (fnd S n).toNat) ++ (S.drop (fnd S n + 1).toNat)) c27 (fun k => (fun k => (fun k => (fun _ => False) k ∨ oks k) k ∨ oks k) k ∨ (Value.slice A27 ((S.take (fnd S n).toNat) ++ (S.drop (fnd S n + 1).toNat)).length c27).ownBlock = some k)), (3, .rd_ (.int .u8) Ar rt cr okr)] (sub_cons (sub_cons (sub_cons (sub_nil _) 3 rfl) 2 rfl) 1 rfl)) (rdin_cons (fun k h => h.elim) (rdin_cons (fun k h => h.elim (fun h => h.elim (fun h => h.elim (fun h => h.elim) (fun h => .inr (.inl ⟨2, _, rfl, h⟩))) (fun h => .inr (.inl ⟨2, _, rfl, h⟩))) (fun h => (hb27 k h).elim .inl (fun h => .inr (.inr (.inr h))))) (rdin_cons (fun k h => .inr (.inl ⟨3, _, rfl, h⟩)) rdin_nil)))⟩
            ·
              refine w_at hF (x_slice_l (E := SgE) Try.underlying59 ty115 (hF.tmp 23 rfl) (hF.tmp 25 rfl) (by omega) (by omega) ((hH.rd 2 rfl)).1) rfl rfl ?_
              clear hF; intro a hF
              clear hS; have hS : SL _ _ := SL.of hH (sub_nil _); refine ⟨hS, ?_⟩
              refine r_do 8 rfl (by kernel_rfl) rfl rfl ?_
              refine w_append 12 2 (xs := ([])) (ys := (S.take ((fnd S n).toNat))) hF hH rfl Try.underlying59 ty115 rfl rfl rfl rfl ((Rd.take ((hH.rd 2 rfl)) ((fnd S n).toNat))) (by intro k_ hk_; exact .inr hk_) (hF.tmp 12 rfl) (hF.tmp 18 rfl) (by simp only [List.length_nil, List.length_take]; omega) (by simp only [List.length_nil, List.length_take, maxLen]; omega) (fun k => (fun _ => False) k ∨ oks k) (fun w' v' h => h) (by rintro k_ (hk_ | hk_); exact .inl hk_; exact .inr hk_) ?_
              clear hF hH; intro a w v19 hF hH
              clear hS; have hS : SL _ _ := SL.of hH (sub_nil _); refine ⟨hS, ?_⟩
              rw [List.nil_append] at hH
              refine r_do 16 rfl (by kernel_rfl) rfl rfl ?_
              refine w_append 12 2 (xs := (S.take (fnd S n).toNat)) (ys := (S.drop (((fnd S n) + 1).toNat))) hF hH rfl Try.underlying59 ty115 rfl rfl rfl rfl ((Rd.drop ((hH.rd 2 rfl)) (by omega : ((fnd S n) + 1).toNat ≤ S.length))) (by intro k_ hk_; exact .inr hk_) (hF.tmp 19 rfl) (hF.tmp 26 rfl) (by simp only [List.length_drop, List.length_take]; omega) (by simp only [List.length_drop, List.length_take, maxLen]; omega) (fun k => (fun k => (fun _ => False) k ∨ oks k) k ∨ oks k) (fun w' v' h => h) (by rintro k_ (hk_ | hk_); exact .inl hk_; exact .inr hk_) ?_
              clear hF hH; intro a w v27 hF hH
              clear hS; have hS : SL _ _ := SL.of hH (sub_nil _); refine ⟨hS, ?_⟩
              obtain ⟨A27, c27, rfl⟩ := (hH.row 12 rfl).form
              have hb27 : ∀ k, (Value.slice A27 ((S.take (fnd S n).toNat) ++ (S.drop (fnd S n + 1).toNat)).length c27).ownBlock = some k → _ := hH.mine 12 _ rfl
              have hH := hH.freeze 12 rfl (fun k => (fun k => (fun k => (fun _ => False) k ∨ oks k) k ∨ oks k) k ∨ (Value.slice A27 ((S.take (fnd S n).toNat) ++ (S.drop (fnd S n + 1).toNat)).length c27).ownBlock = some k) (fun k => Iff.rfl)
              have hH := hH.subrd 12 rfl 2 (hH.rd 12 rfl) (fun _ h => h)
              refine r_take 17 hF rfl rfl rfl (by kernel_rfl) (by kernel_rfl) (by kernel_rfl) (fun _ _ _ h => h) rfl hS (fun w hS => x_nil (hF.tmp 11 rfl)) rfl ?_; clear hF; intro a hF
              refine r_take 18 hF rfl rfl rfl (by kernel_rfl) (by kernel_rfl) (by kernel_rfl) (fun _ _ _ h => h) rfl hS (fun w hS => x_faddr Try.underlying61 rfl ty59 (by decide) (hF.tmp 28 rfl) rfl) rfl ?_; clear hF; intro a hF
              refine r_do 19 rfl (by kernel_rfl) rfl rfl ?_
              refine w_store 1 hH ty59 rfl (hF.tmp 29 rfl) (hF.tmp 27 rfl) rfl (one1 rfl rfl) (by first | decide | exact Nat.le_of_ble_eq_true rfl) ?_
              clear hH; intro w hH
              clear hS; have hS : SL _ _ := SL.of hH (sub_nil _); refine ⟨hS, ?_⟩
              refine r_end (by kernel_rfl) ?_; clear hS
              refine hK6 _ _ ?_
              refine wp_seq_k fun khK42 hK42 => ?_
              refine wp_region_lit ?_
              refine l_at hF rfl rfl rfl (x_assign rfl) ?_; clear hF; intro a hF
              refine wpList_nil ?_
              refine hK42 _ _ ?_
              refine wp_ret ?_
              try simp only [Exit.then, Exit.inBlock]
              have hE_ := at_of hat.2.2
              have hM_ := (remS_on hat.2.2).resolve_right hc10
              refine fin_ret hF (res1 hF rfl rfl) ⟨Asn.all [(1, .blk bd (.cells #[.slice A27 ((S.take (fnd S n).toNat) ++ (S.drop (fnd S n + 1).toNat)).length c27, .slice Ar rt.length cr] 61 (0, 0))), (2, .rd_ SgE A27 ((S.take (fnd S n).toNat) ++ (S.drop (fnd S n + 1).toNat)) c27 (fun k => (fun k => (fun k => (fun _ => False) k ∨ oks k) k ∨ oks k) k ∨ (Value.slice A27 ((S.take (fnd S n).toNat) ++ (S.drop (fnd S n + 1).toNat)).length c27).ownBlock = some k)), (3, .rd_ (.int .u8) Ar rt cr okr)], by rw [hE_] <;> rfl, by rw [hM_]; exact ⟨_, _, _, _, _, _, rfl⟩, grew_of (hH.sub [(1, .blk bd (.cells #[.slice A27 ((S.take (fnd S n).toNat) ++ (S.drop (fnd S n + 1).toNat)).length c27, .slice Ar rt.length cr] 61 (0, 0))), (2, .rd_ SgE A27 ((S.take (fnd S n).toNat) ++ (S.drop (fnd S n + 1).toNat)) c27 (fun k => (fun k => (fun k => (fun _ => False) k ∨ oks k) k ∨ oks k) k ∨ (Value.slice A27 ((S.take (fnd S n).toNat) ++ (S.drop (fnd S n + 1).toNat)).length c27).ownBlock = some k)), (3, .rd_ (.int .u8) Ar rt cr okr)] (sub_cons (sub_cons (sub_cons (sub_nil _) 3 rfl) 2 rfl) 1 rfl)) (rdin_cons (fun k h => h.elim) (rdin_cons (fun k h => h.elim (fun h => h.elim (fun h => h.elim (fun h => h.elim) (fun h => .inr (.inl ⟨2, _, rfl, h⟩))) (fun h => .inr (.inl ⟨2, _, rfl, h⟩))) (fun h => (hb27 k h).elim .inl (fun h => .inr (.inr (.inr h))))) (rdin_cons (fun k h => .inr (.inl ⟨3, _, rfl, h⟩)) rdin_nil)))⟩
          ·
            refine w_at hF (x_slice_l (E := SgE) Try.underlying59 ty115 (hF.tmp 23 rfl) (hF.tmp 25 rfl) (by omega) (by omega) ((hH.rd 2 rfl)).1) rfl rfl ?_
            clear hF; intro a hF
            clear hS; have hS : SL _ _ := SL.of hH (sub_nil _); refine ⟨hS, ?_⟩
            refine r_do 7 rfl (by kernel_rfl) rfl rfl ?_
            refine w_at hF (x_slice_h Try.underlying59 ty115 (hF.tmp 16 rfl) (hF.tmp 17 rfl) (by omega) (by omega) ((hH.rd 2 rfl)).1) rfl rfl ?_
            clear hF; intro a hF
            clear hS; have hS : SL _ _ := SL.of hH (sub_nil _); refine ⟨hS, ?_⟩
            refine r_do 8 rfl (by kernel_rfl) rfl rfl ?_
            refine w_append 12 2 (xs := ([])) (ys := (S.take ((fnd S n).toNat))) hF hH rfl Try.underlying59 ty115 rfl rfl rfl rfl ((Rd.take ((hH.rd 2 rfl)) ((fnd S n).toNat))) (by intro k_ hk_; exact .inr hk_) (hF.tmp 12 rfl) (hF.tmp 18 rfl) (by simp only [List.length_nil, List.length_take]; omega) (by simp only [List.length_nil, List.length_take, maxLen]; omega) (fun k => (fun _ => False) k ∨ oks k) (fun w' v' h => h) (by rintro k_ (hk_ | hk_); exact .inl hk_; exact .inr hk_) ?_
            clear hF hH; intro a w v19 hF hH
            clear hS; have hS : SL _ _ := SL.of hH (sub_nil _); refine ⟨hS, ?_⟩
            rw [List.nil_append] at hH
            refine r_do 16 rfl (by kernel_rfl) rfl rfl ?_
            refine w_append 12 2 (xs := (S.take (fnd S n).toNat)) (ys := (S.drop (((fnd S n) + 1).toNat))) hF hH rfl Try.underlying59 ty115 rfl rfl rfl rfl ((Rd.drop ((hH.rd 2 rfl)) (by omega : ((fnd S n) + 1).toNat ≤ S.length))) (by intro k_ hk_; exact .inr hk_) (hF.tmp 19 rfl) (hF.tmp 26 rfl) (by simp only [List.length_drop, List.length_take]; omega) (by simp only [List.length_drop, List.length_take, maxLen]; omega) (fun k => (fun k => (fun _ => False) k ∨ oks k) k ∨ oks k) (fun w' v' h => h) (by rintro k_ (hk_ | hk_); exact .inl hk_; exact .inr hk_) ?_
            clear hF hH; intro a w v27 hF hH
            clear hS; have hS : SL _ _ := SL.of hH (sub_nil _); refine ⟨hS, ?_⟩
            obtain ⟨A27, c27, rfl⟩ := (hH.row 12 rfl).form
            have hb27 : ∀ k, (Value.slice A27 ((S.take (fnd S n).toNat) ++ (S.drop (fnd S n + 1).toNat)).length c27).ownBlock = some k → _ := hH.mine 12 _ rfl
            have hH := hH.freeze 12 rfl (fun k => (fun k => (fun k => (fun _ => False) k ∨ oks k) k ∨ oks k) k ∨ (Value.slice A27 ((S.take (fnd S n).toNat) ++ (S.drop (fnd S n + 1).toNat)).length c27).ownBlock = some k) (fun k => Iff.rfl)
            have hH := hH.subrd 12 rfl 2 (hH.rd 12 rfl) (fun _ h => h)
            refine r_take 17 hF rfl rfl rfl (by kernel_rfl) (by kernel_rfl) (by kernel_rfl) (fun _ _ _ h => h) rfl hS (fun w hS => x_nil (hF.tmp 11 rfl)) rfl ?_; clear hF; intro a hF
            refine r_take 18 hF rfl rfl rfl (by kernel_rfl) (by kernel_rfl) (by kernel_rfl) (fun _ _ _ h => h) rfl hS (fun w hS => x_faddr Try.underlying61 rfl ty59 (by decide) (hF.tmp 28 rfl) rfl) rfl ?_; clear hF; intro a hF
            refine r_do 19 rfl (by kernel_rfl) rfl rfl ?_
            refine w_store 1 hH ty59 rfl (hF.tmp 29 rfl) (hF.tmp 27 rfl) rfl (one1 rfl rfl) (by first | decide | exact Nat.le_of_ble_eq_true rfl) ?_
            clear hH; intro w hH
            clear hS; have hS : SL _ _ := SL.of hH (sub_nil _); refine ⟨hS, ?_⟩
            refine r_end (by kernel_rfl) ?_; clear hS
            refine hK6 _ _ ?_
            refine wp_seq_k fun khK43 hK43 => ?_
            refine wp_region_lit ?_
            refine l_at hF rfl rfl rfl (x_assign rfl) ?_; clear hF; intro a hF
            refine wpList_nil ?_
            refine hK43 _ _ ?_
            refine wp_ret ?_
            try simp only [Exit.then, Exit.inBlock]
            have hE_ := at_of hat.2.2
            have hM_ := (remS_on hat.2.2).resolve_right hc10
            refine fin_ret hF (res1 hF rfl rfl) ⟨Asn.all [(1, .blk bd (.cells #[.slice A27 ((S.take (fnd S n).toNat) ++ (S.drop (fnd S n + 1).toNat)).length c27, .slice Ar rt.length cr] 61 (0, 0))), (2, .rd_ SgE A27 ((S.take (fnd S n).toNat) ++ (S.drop (fnd S n + 1).toNat)) c27 (fun k => (fun k => (fun k => (fun _ => False) k ∨ oks k) k ∨ oks k) k ∨ (Value.slice A27 ((S.take (fnd S n).toNat) ++ (S.drop (fnd S n + 1).toNat)).length c27).ownBlock = some k)), (3, .rd_ (.int .u8) Ar rt cr okr)], by rw [hE_] <;> rfl, by rw [hM_]; exact ⟨_, _, _, _, _, _, rfl⟩, grew_of (hH.sub [(1, .blk bd (.cells #[.slice A27 ((S.take (fnd S n).toNat) ++ (S.drop (fnd S n + 1).toNat)).length c27, .slice Ar rt.length cr] 61 (0, 0))), (2, .rd_ SgE A27 ((S.take (fnd S n).toNat) ++ (S.drop (fnd S n + 1).toNat)) c27 (fun k => (fun k => (fun k => (fun _ => False) k ∨ oks k) k ∨ oks k) k ∨ (Value.slice A27 ((S.take (fnd S n).toNat) ++ (S.drop (fnd S n + 1).toNat)).length c27).ownBlock = some k)), (3, .rd_ (.int .u8) Ar rt cr okr)] (sub_cons (sub_cons (sub_cons (sub_nil _) 3 rfl) 2 rfl) 1 rfl)) (rdin_cons (fun k h => h.elim) (rdin_cons (fun k h => h.elim (fun h => h.elim (fun h => h.elim (fun h => h.elim) (fun h => .inr (.inl ⟨2, _, rfl, h⟩))) (fun h => .inr (.inl ⟨2, _, rfl, h⟩))) (fun h => (hb27 k h).elim .inl (fun h => .inr (.inr (.inr h))))) (rdin_cons (fun k h => .inr (.inl ⟨3, _, rfl, h⟩)) rdin_nil)))⟩
        ·
          refine w_at hF (x_slice_h Try.underlying59 ty115 (hF.tmp 16 rfl) (hF.tmp 17 rfl) (by omega) (by omega) ((hH.rd 2 rfl)).1) rfl rfl ?_
          clear hF; intro a hF
          clear hS; have hS : SL _ _ := SL.of hH (sub_nil _); refine ⟨hS, ?_⟩
          refine r_do2 1 15 rfl rfl (by kernel_rfl) rfl rfl rfl rfl ?_ ?_
          ·
            refine w_lit0 SgE 12 hF hH rfl Try.underlying59 ty115 ?_
            clear hF hH; intro a w b12 hF hH
            clear hS; have hS : SL _ _ := SL.of hH (sub_nil _); refine ⟨hS, ?_⟩
            refine r_do2 8 15 rfl rfl (by kernel_rfl) rfl rfl rfl rfl ?_ ?_
            ·
              refine w_append 12 2 (xs := ([])) (ys := (S.take ((fnd S n).toNat))) hF hH rfl Try.underlying59 ty115 rfl rfl rfl rfl ((Rd.take ((hH.rd 2 rfl)) ((fnd S n).toNat))) (by intro k_ hk_; exact .inr hk_) (hF.tmp 12 rfl) (hF.tmp 18 rfl) (by simp only [List.length_nil, List.length_take]; omega) (by simp only [List.length_nil, List.length_take, maxLen]; omega) (fun k => (fun _ => False) k ∨ oks k) (fun w' v' h => h) (by rintro k_ (hk_ | hk_); exact .inl hk_; exact .inr hk_) ?_
              clear hF hH; intro a w v19 hF hH
              clear hS; have hS : SL _ _ := SL.of hH (sub_nil _); refine ⟨hS, ?_⟩
              rw [List.nil_append] at hH
              refine r_do 15 rfl (by kernel_rfl) rfl rfl ?_
              refine w_at hF (x_slice_l (E := SgE) Try.underlying59 ty115 (hF.tmp 23 rfl) (hF.tmp 25 rfl) (by omega) (by omega) ((hH.rd 2 rfl)).1) rfl rfl ?_
              clear hF; intro a hF
              clear hS; have hS : SL _ _ := SL.of hH (sub_nil _); refine ⟨hS, ?_⟩
              refine r_do 16 rfl (by kernel_rfl) rfl rfl ?_
              refine w_append 12 2 (xs := (S.take (fnd S n).toNat)) (ys := (S.drop (((fnd S n) + 1).toNat))) hF hH rfl Try.underlying59 ty115 rfl rfl rfl rfl ((Rd.drop ((hH.rd 2 rfl)) (by omega : ((fnd S n) + 1).toNat ≤ S.length))) (by intro k_ hk_; exact .inr hk_) (hF.tmp 19 rfl) (hF.tmp 26 rfl) (by simp only [List.length_drop, List.length_take]; omega) (by simp only [List.length_drop, List.length_take, maxLen]; omega) (fun k => (fun k => (fun _ => False) k ∨ oks k) k ∨ oks k) (fun w' v' h => h) (by rintro k_ (hk_ | hk_); exact .inl hk_; exact .inr hk_) ?_
              clear hF hH; intro a w v27 hF hH
              clear hS; have hS : SL _ _ := SL.of hH (sub_nil _); refine ⟨hS, ?_⟩
              obtain ⟨A27, c27, rfl⟩ := (hH.row 12 rfl).form
              have hb27 : ∀ k, (Value.slice A27 ((S.take (fnd S n).toNat) ++ (S.drop (fnd S n + 1).toNat)).length c27).ownBlock = some k → _ := hH.mine 12 _ rfl
              have hH := hH.freeze 12 rfl (fun k => (fun k => (fun k => (fun _ => False) k ∨ oks k) k ∨ oks k) k ∨ (Value.slice A27 ((S.take (fnd S n).toNat) ++ (S.drop (fnd S n + 1).toNat)).length c27).ownBlock = some k) (fun k => Iff.rfl)
              have hH := hH.subrd 12 rfl 2 (hH.rd 12 rfl) (fun _ h => h)
              refine r_take 17 hF rfl rfl rfl (by kernel_rfl) (by kernel_rfl) (by kernel_rfl) (fun _ _ _ h => h) rfl hS (fun w hS => x_nil (hF.tmp 11 rfl)) rfl ?_; clear hF; intro a hF
              refine r_take 18 hF rfl rfl rfl (by kernel_rfl) (by kernel_rfl) (by kernel_rfl) (fun _ _ _ h => h) rfl hS (fun w hS => x_faddr Try.underlying61 rfl ty59 (by decide) (hF.tmp 28 rfl) rfl) rfl ?_; clear hF; intro a hF
              refine r_do 19 rfl (by kernel_rfl) rfl rfl ?_
              refine w_store 1 hH ty59 rfl (hF.tmp 29 rfl) (hF.tmp 27 rfl) rfl (one1 rfl rfl) (by first | decide | exact Nat.le_of_ble_eq_true rfl) ?_
              clear hH; intro w hH
              clear hS; have hS : SL _ _ := SL.of hH (sub_nil _); refine ⟨hS, ?_⟩
              refine r_end (by kernel_rfl) ?_; clear hS
              refine hK6 _ _ ?_
              refine wp_seq_k fun khK44 hK44 => ?_
              refine wp_region_lit ?_
              refine l_at hF rfl rfl rfl (x_assign rfl) ?_; clear hF; intro a hF
              refine wpList_nil ?_
              refine hK44 _ _ ?_
              refine wp_ret ?_
              try simp only [Exit.then, Exit.inBlock]
              have hE_ := at_of hat.2.2
              have hM_ := (remS_on hat.2.2).resolve_right hc10
              refine fin_ret hF (res1 hF rfl rfl) ⟨Asn.all [(1, .blk bd (.cells #[.slice A27 ((S.take (fnd S n).toNat) ++ (S.drop (fnd S n + 1).toNat)).length c27, .slice Ar rt.length cr] 61 (0, 0))), (2, .rd_ SgE A27 ((S.take (fnd S n).toNat) ++ (S.drop (fnd S n + 1).toNat)) c27 (fun k => (fun k => (fun k => (fun _ => False) k ∨ oks k) k ∨ oks k) k ∨ (Value.slice A27 ((S.take (fnd S n).toNat) ++ (S.drop (fnd S n + 1).toNat)).length c27).ownBlock = some k)), (3, .rd_ (.int .u8) Ar rt cr okr)], by rw [hE_] <;> rfl, by rw [hM_]; exact ⟨_, _, _, _, _, _, rfl⟩, grew_of (hH.sub [(1, .blk bd (.cells #[.slice A27 ((S.take (fnd S n).toNat) ++ (S.drop (fnd S n + 1).toNat)).length c27, .slice Ar rt.length cr] 61 (0, 0))), (2, .rd_ SgE A27 ((S.take (fnd S n).toNat) ++ (S.drop (fnd S n + 1).toNat)) c27 (fun k => (fun k => (fun k => (fun _ => False) k ∨ oks k) k ∨ oks k) k ∨ (Value.slice A27 ((S.take (fnd S n).toNat) ++ (S.drop (fnd S n + 1).toNat)).length c27).ownBlock = some k)), (3, .rd_ (.int .u8) Ar rt cr okr)] (sub_cons (sub_cons (sub_cons (sub_nil _) 3 rfl) 2 rfl) 1 rfl)) (rdin_cons (fun k h => h.elim) (rdin_cons (fun k h => h.elim (fun h => h.elim (fun h => h.elim (fun h => h.elim) (fun h => .inr (.inl ⟨2, _, rfl, h⟩))) (fun h => .inr (.inl ⟨2, _, rfl, h⟩))) (fun h => (hb27 k h).elim .inl (fun h => .inr (.inr (.inr h))))) (rdin_cons (fun k h => .inr (.inl ⟨3, _, rfl, h⟩)) rdin_nil)))⟩
            ·
              refine w_at hF (x_slice_l (E := SgE) Try.underlying59 ty115 (hF.tmp 23 rfl) (hF.tmp 25 rfl) (by omega) (by omega) ((hH.rd 2 rfl)).1) rfl rfl ?_
              clear hF; intro a hF
              clear hS; have hS : SL _ _ := SL.of hH (sub_nil _); refine ⟨hS, ?_⟩
              refine r_do 8 rfl (by kernel_rfl) rfl rfl ?_
              refine w_append 12 2 (xs := ([])) (ys := (S.take ((fnd S n).toNat))) hF hH rfl Try.underlying59 ty115 rfl rfl rfl rfl ((Rd.take ((hH.rd 2 rfl)) ((fnd S n).toNat))) (by intro k_ hk_; exact .inr hk_) (hF.tmp 12 rfl) (hF.tmp 18 rfl) (by simp only [List.length_nil, List.length_take]; omega) (by simp only [List.length_nil, List.length_take, maxLen]; omega) (fun k => (fun _ => False) k ∨ oks k) (fun w' v' h => h) (by rintro k_ (hk_ | hk_); exact .inl hk_; exact .inr hk_) ?_
              clear hF hH; intro a w v19 hF hH
              clear hS; have hS : SL _ _ := SL.of hH (sub_nil _); refine ⟨hS, ?_⟩
              rw [List.nil_append] at hH
              refine r_do 16 rfl (by kernel_rfl) rfl rfl ?_
              refine w_append 12 2 (xs := (S.take (fnd S n).toNat)) (ys := (S.drop (((fnd S n) + 1).toNat))) hF hH rfl Try.underlying59 ty115 rfl rfl rfl rfl ((Rd.drop ((hH.rd 2 rfl)) (by omega : ((fnd S n) + 1).toNat ≤ S.length))) (by intro k_ hk_; exact .inr hk_) (hF.tmp 19 rfl) (hF.tmp 26 rfl) (by simp only [List.length_drop, List.length_take]; omega) (by simp only [List.length_drop, List.length_take, maxLen]; omega) (fun k => (fun k => (fun _ => False) k ∨ oks k) k ∨ oks k) (fun w' v' h => h) (by rintro k_ (hk_ | hk_); exact .inl hk_; exact .inr hk_) ?_
              clear hF hH; intro a w v27 hF hH
              clear hS; have hS : SL _ _ := SL.of hH (sub_nil _); refine ⟨hS, ?_⟩
              obtain ⟨A27, c27, rfl⟩ := (hH.row 12 rfl).form
              have hb27 : ∀ k, (Value.slice A27 ((S.take (fnd S n).toNat) ++ (S.drop (fnd S n + 1).toNat)).length c27).ownBlock = some k → _ := hH.mine 12 _ rfl
              have hH := hH.freeze 12 rfl (fun k => (fun k => (fun k => (fun _ => False) k ∨ oks k) k ∨ oks k) k ∨ (Value.slice A27 ((S.take (fnd S n).toNat) ++ (S.drop (fnd S n + 1).toNat)).length c27).ownBlock = some k) (fun k => Iff.rfl)
              have hH := hH.subrd 12 rfl 2 (hH.rd 12 rfl) (fun _ h => h)
              refine r_take 17 hF rfl rfl rfl (by kernel_rfl) (by kernel_rfl) (by kernel_rfl) (fun _ _ _ h => h) rfl hS (fun w hS => x_nil (hF.tmp 11 rfl)) rfl ?_; clear hF; intro a hF
              refine r_take 18 hF rfl rfl rfl (by kernel_rfl) (by kernel_rfl) (by kernel_rfl) (fun _ _ _ h => h) rfl hS (fun w hS => x_faddr Try.underlying61 rfl ty59 (by decide) (hF.tmp 28 rfl) rfl) rfl ?_; clear hF; intro a hF
              refine r_do 19 rfl (by kernel_rfl) rfl rfl ?_
              refine w_store 1 hH ty59 rfl (hF.tmp 29 rfl) (hF.tmp 27 rfl) rfl (one1 rfl rfl) (by first | decide | exact Nat.le_of_ble_eq_true rfl) ?_
              clear hH; intro w hH
              clear hS; have hS : SL _ _ := SL.of hH (sub_nil _); refine ⟨hS, ?_⟩
              refine r_end (by kernel_rfl) ?_; clear hS
              refine hK6 _ _ ?_
              refine wp_seq_k fun khK45 hK45 => ?_
              refine wp_region_lit ?_
              refine l_at hF rfl rfl rfl (x_assign rfl) ?_; clear hF; intro a hF
              refine wpList_nil ?_
              refine hK45 _ _ ?_
              refine wp_ret ?_
              try simp only [Exit.then, Exit.inBlock]
              have hE_ := at_of hat.2.2
              have hM_ := (remS_on hat.2.2).resolve_right hc10
              refine fin_ret hF (res1 hF rfl rfl) ⟨Asn.all [(1, .blk bd (.cells #[.slice A27 ((S.take (fnd S n).toNat) ++ (S.drop (fnd S n + 1).toNat)).length c27, .slice Ar rt.length cr] 61 (0, 0))), (2, .rd_ SgE A27 ((S.take (fnd S n).toNat) ++ (S.drop (fnd S n + 1).toNat)) c27 (fun k => (fun k => (fun k => (fun _ => False) k ∨ oks k) k ∨ oks k) k ∨ (Value.slice A27 ((S.take (fnd S n).toNat) ++ (S.drop (fnd S n + 1).toNat)).length c27).ownBlock = some k)), (3, .rd_ (.int .u8) Ar rt cr okr)], by rw [hE_] <;> rfl, by rw [hM_]; exact ⟨_, _, _, _, _, _, rfl⟩, grew_of (hH.sub [(1, .blk bd (.cells #[.slice A27 ((S.take (fnd S n).toNat) ++ (S.drop (fnd S n + 1).toNat)).length c27, .slice Ar rt.length cr] 61 (0, 0))), (2, .rd_ SgE A27 ((S.take (fnd S n).toNat) ++ (S.drop (fnd S n + 1).toNat)) c27 (fun k => (fun k => (fun k => (fun _ => False) k ∨ oks k) k ∨ oks k) k ∨ (Value.slice A27 ((S.take (fnd S n).toNat) ++ (S.drop (fnd S n + 1).toNat)).length c27).ownBlock = some k)), (3, .rd_ (.int .u8) Ar rt cr okr)] (sub_cons (sub_cons (sub_cons (sub_nil _) 3 rfl) 2 rfl) 1 rfl)) (rdin_cons (fun k h => h.elim) (rdin_cons (fun k h => h.elim (fun h => h.elim (fun h => h.elim (fun h => h.elim) (fun h => .inr (.inl ⟨2, _, rfl, h⟩))) (fun h => .inr (.inl ⟨2, _, rfl, h⟩))) (fun h => (hb27 k h).elim .inl (fun h => .inr (.inr (.inr h))))) (rdin_cons (fun k h => .inr (.inl ⟨3, _, rfl, h⟩)) rdin_nil)))⟩
          ·
            refine w_at hF (x_slice_l (E := SgE) Try.underlying59 ty115 (hF.tmp 23 rfl) (hF.tmp 25 rfl) (by omega) (by omega) ((hH.rd 2 rfl)).1) rfl rfl ?_
            clear hF; intro a hF
            clear hS; have hS : SL _ _ := SL.of hH (sub_nil _); refine ⟨hS, ?_⟩
            refine r_do 1 rfl (by kernel_rfl) rfl rfl ?_
            refine w_lit0 SgE 12 hF hH rfl Try.underlying59 ty115 ?_
            clear hF hH; intro a w b12 hF hH
            clear hS; have hS : SL _ _ := SL.of hH (sub_nil _); refine ⟨hS, ?_⟩
            refine r_do 8 rfl (by kernel_rfl) rfl rfl ?_
            refine w_append 12 2 (xs := ([])) (ys := (S.take ((fnd S n).toNat))) hF hH rfl Try.underlying59 ty115 rfl rfl rfl rfl ((Rd.take ((hH.rd 2 rfl)) ((fnd S n).toNat))) (by intro k_ hk_; exact .inr hk_) (hF.tmp 12 rfl) (hF.tmp 18 rfl) (by simp only [List.length_nil, List.length_take]; omega) (by simp only [List.length_nil, List.length_take, maxLen]; omega) (fun k => (fun _ => False) k ∨ oks k) (fun w' v' h => h) (by rintro k_ (hk_ | hk_); exact .inl hk_; exact .inr hk_) ?_
            clear hF hH; intro a w v19 hF hH
            clear hS; have hS : SL _ _ := SL.of hH (sub_nil _); refine ⟨hS, ?_⟩
            rw [List.nil_append] at hH
            refine r_do 16 rfl (by kernel_rfl) rfl rfl ?_
            refine w_append 12 2 (xs := (S.take (fnd S n).toNat)) (ys := (S.drop (((fnd S n) + 1).toNat))) hF hH rfl Try.underlying59 ty115 rfl rfl rfl rfl ((Rd.drop ((hH.rd 2 rfl)) (by omega : ((fnd S n) + 1).toNat ≤ S.length))) (by intro k_ hk_; exact .inr hk_) (hF.tmp 19 rfl) (hF.tmp 26 rfl) (by simp only [List.length_drop, List.length_take]; omega) (by simp only [List.length_drop, List.length_take, maxLen]; omega) (fun k => (fun k => (fun _ => False) k ∨ oks k) k ∨ oks k) (fun w' v' h => h) (by rintro k_ (hk_ | hk_); exact .inl hk_; exact .inr hk_) ?_
            clear hF hH; intro a w v27 hF hH
            clear hS; have hS : SL _ _ := SL.of hH (sub_nil _); refine ⟨hS, ?_⟩
            obtain ⟨A27, c27, rfl⟩ := (hH.row 12 rfl).form
            have hb27 : ∀ k, (Value.slice A27 ((S.take (fnd S n).toNat) ++ (S.drop (fnd S n + 1).toNat)).length c27).ownBlock = some k → _ := hH.mine 12 _ rfl
            have hH := hH.freeze 12 rfl (fun k => (fun k => (fun k => (fun _ => False) k ∨ oks k) k ∨ oks k) k ∨ (Value.slice A27 ((S.take (fnd S n).toNat) ++ (S.drop (fnd S n + 1).toNat)).length c27).ownBlock = some k) (fun k => Iff.rfl)
            have hH := hH.subrd 12 rfl 2 (hH.rd 12 rfl) (fun _ h => h)
            refine r_take 17 hF rfl rfl rfl (by kernel_rfl) (by kernel_rfl) (by kernel_rfl) (fun _ _ _ h => h) rfl hS (fun w hS => x_nil (hF.tmp 11 rfl)) rfl ?_; clear hF; intro a hF
            refine r_take 18 hF rfl rfl rfl (by kernel_rfl) (by kernel_rfl) (by kernel_rfl) (fun _ _ _ h => h) rfl hS (fun w hS => x_faddr Try.underlying61 rfl ty59 (by decide) (hF.tmp 28 rfl) rfl) rfl ?_; clear hF; intro a hF
            refine r_do 19 rfl (by kernel_rfl) rfl rfl ?_
            refine w_store 1 hH ty59 rfl (hF.tmp 29 rfl) (hF.tmp 27 rfl) rfl (one1 rfl rfl) (by first | decide | exact Nat.le_of_ble_eq_true rfl) ?_
            clear hH; intro w hH
            clear hS; have hS : SL _ _ := SL.of hH (sub_nil _); refine ⟨hS, ?_⟩
            refine r_end (by kernel_rfl) ?_; clear hS
            refine hK6 _ _ ?_
            refine wp_seq_k fun khK46 hK46 => ?_
            refine wp_region_lit ?_
            refine l_at hF rfl rfl rfl (x_assign rfl) ?_; clear hF; intro a hF
            refine wpList_nil ?_
            refine hK46 _ _ ?_
            refine wp_ret ?_
            try simp only [Exit.then, Exit.inBlock]
            have hE_ := at_of hat.2.2
            have hM_ := (remS_on hat.2.2).resolve_right hc10
            refine fin_ret hF (res1 hF rfl rfl) ⟨Asn.all [(1, .blk bd (.cells #[.slice A27 ((S.take (fnd S n).toNat) ++ (S.drop (fnd S n + 1).toNat)).length c27, .slice Ar rt.length cr] 61 (0, 0))), (2, .rd_ SgE A27 ((S.take (fnd S n).toNat) ++ (S.drop (fnd S n + 1).toNat)) c27 (fun k => (fun k => (fun k => (fun _ => False) k ∨ oks k) k ∨ oks k) k ∨ (Value.slice A27 ((S.take (fnd S n).toNat) ++ (S.drop (fnd S n + 1).toNat)).length c27).ownBlock = some k)), (3, .rd_ (.int .u8) Ar rt cr okr)], by rw [hE_] <;> rfl, by rw [hM_]; exact ⟨_, _, _, _, _, _, rfl⟩, grew_of (hH.sub [(1, .blk bd (.cells #[.slice A27 ((S.take (fnd S n).toNat) ++ (S.drop (fnd S n + 1).toNat)).length c27, .slice Ar rt.length cr] 61 (0, 0))), (2, .rd_ SgE A27 ((S.take (fnd S n).toNat) ++ (S.drop (fnd S n + 1).toNat)) c27 (fun k => (fun k => (fun k => (fun _ => False) k ∨ oks k) k ∨ oks k) k ∨ (Value.slice A27 ((S.take (fnd S n).toNat) ++ (S.drop (fnd S n + 1).toNat)).length c27).ownBlock = some k)), (3, .rd_ (.int .u8) Ar rt cr okr)] (sub_cons (sub_cons (sub_cons (sub_nil _) 3 rfl) 2 rfl) 1 rfl)) (rdin_cons (fun k h => h.elim) (rdin_cons (fun k h => h.elim (fun h => h.elim (fun h => h.elim (fun h => h.elim) (fun h => .inr (.inl ⟨2, _, rfl, h⟩))) (fun h => .inr (.inl ⟨2, _, rfl, h⟩))) (fun h => (hb27 k h).elim .inl (fun h => .inr (.inr (.inr h))))) (rdin_cons (fun k h => .inr (.inl ⟨3, _, rfl, h⟩)) rdin_nil)))⟩
        ·
          refine w_at hF (x_slice_l (E := SgE) Try.underlying59 ty115 (hF.tmp 23 rfl) (hF.tmp 25 rfl) (by omega) (by omega) ((hH.rd 2 rfl)).1) rfl rfl ?_
          clear hF; intro a hF
          clear hS; have hS : SL _ _ := SL.of hH (sub_nil _); refine ⟨hS, ?_⟩
          refine r_do2 1 7 rfl rfl (by kernel_rfl) rfl rfl rfl rfl ?_ ?_
          ·
            refine w_lit0 SgE 12 hF hH rfl Try.underlying59 ty115 ?_
            clear hF hH; intro a w b12 hF hH
            clear hS; have hS : SL _ _ := SL.of hH (sub_nil _); refine ⟨hS, ?_⟩
            refine r_do 7 rfl (by kernel_rfl) rfl rfl ?_
            refine w_at hF (x_slice_h Try.underlying59 ty115 (hF.tmp 16 rfl) (hF.tmp 17 rfl) (by omega) (by omega) ((hH.rd 2 rfl)).1) rfl rfl ?_
            clear hF; intro a hF
            clear hS; have hS : SL _ _ := SL.of hH (sub_nil _); refine ⟨hS, ?_⟩
            refine r_do 8 rfl (by kernel_rfl) rfl rfl ?_
            refine w_append 12 2 (xs := ([])) (ys := (S.take ((fnd S n).toNat))) hF hH rfl Try.underlying59 ty115 rfl rfl rfl rfl ((Rd.take ((hH.rd 2 rfl)) ((fnd S n).toNat))) (by intro k_ hk_; exact .inr hk_) (hF.tmp 12 rfl) (hF.tmp 18 rfl) (by simp only [List.length_nil, List.length_take]; omega) (by simp only [List.length_nil, List.length_take, maxLen]; omega) (fun k => (fun _ => False) k ∨ oks k) (fun w' v' h => h) (by rintro k_ (hk_ | hk_); exact .inl hk_; exact .inr hk_) ?_
            clear hF hH; intro a w v19 hF hH
            clear hS; have hS : SL _ _ := SL.of hH (sub_nil _); refine ⟨hS, ?_⟩
            rw [List.nil_append] at hH
            refine r_do 16 rfl (by kernel_rfl) rfl rfl ?_
            refine w_append 12 2 (xs := (S.take (fnd S n).toNat)) (ys := (S.drop (((fnd S n) + 1).toNat))) hF hH rfl Try.underlying59 ty115 rfl rfl rfl rfl ((Rd.drop ((hH.rd 2 rfl)) (by omega : ((fnd S n) + 1).toNat ≤ S.length))) (by intro k_ hk_; exact .inr hk_) (hF.tmp 19 rfl) (hF.tmp 26 rfl) (by simp only [List.length_drop, List.length_take]; omega) (by simp only [List.length_drop, List.length_take, maxLen]; omega) (fun k => (fun k => (fun _ => False) k ∨ oks k) k ∨ oks k) (fun w' v' h => h) (by rintro k_ (hk_ | hk_); exact .inl hk_; exact .inr hk_) ?_
            clear hF hH; intro a w v27 hF hH
            clear hS; have hS : SL _ _ := SL.of hH (sub_nil _); refine ⟨hS, ?_⟩
            obtain ⟨A27, c27, rfl⟩ := (hH.row 12 rfl).form
            have hb27 : ∀ k, (Value.slice A27 ((S.take (fnd S n).toNat) ++ (S.drop (fnd S n + 1).toNat)).length c27).ownBlock = some k → _ := hH.mine 12 _ rfl
            have hH := hH.freeze 12 rfl (fun k => (fun k => (fun k => (fun _ => False) k ∨ oks k) k ∨ oks k) k ∨ (Value.slice A27 ((S.take (fnd S n).toNat) ++ (S.drop (fnd S n + 1).toNat)).length c27).ownBlock = some k) (fun k => Iff.rfl)
            have hH := hH.subrd 12 rfl 2 (hH.rd 12 rfl) (fun _ h => h)
            refine r_take 17 hF rfl rfl rfl (by kernel_rfl) (by kernel_rfl) (by kernel_rfl) (fun _ _ _ h => h) rfl hS (fun w hS => x_nil (hF.tmp 11 rfl)) rfl ?_; clear hF; intro a hF
            refine r_take 18 hF rfl rfl rfl (by kernel_rfl) (by kernel_rfl) (by kernel_rfl) (fun _ _ _ h => h) rfl hS (fun w hS => x_faddr Try.underlying61 rfl ty59 (by decide) (hF.tmp 28 rfl) rfl) rfl ?_; clear hF; intro a hF
            refine r_do 19 rfl (by kernel_rfl) rfl rfl ?_
            refine w_store 1 hH ty59 rfl (hF.tmp 29 rfl) (hF.tmp 27 rfl) rfl (one1 rfl rfl) (by first | decide | exact Nat.le_of_ble_eq_true rfl) ?_
            clear hH; intro w hH
            clear hS; have hS : SL _ _ := SL.of hH (sub_nil _); refine ⟨hS, ?_⟩
            refine r_end (by kernel_rfl) ?_; clear hS
            refine hK6 _ _ ?_
            refine wp_seq_k fun khK47 hK47 => ?_
            refine wp_region_lit ?_
            refine l_at hF rfl rfl rfl (x_assign rfl) ?_; clear hF; intro a hF
            refine wpList_nil ?_
            refine hK47 _ _ ?_
            refine wp_ret ?_
            try simp only [Exit.then, Exit.inBlock]
            have hE_ := at_of hat.2.2
            have hM_ := (remS_on hat.2.2).resolve_right hc10
            refine fin_ret hF (res1 hF rfl rfl) ⟨Asn.all [(1, .blk bd (.cells #[.slice A27 ((S.take (fnd S n).toNat) ++ (S.drop (fnd S n + 1).toNat)).length c27, .slice Ar rt.length cr] 61 (0, 0))), (2, .rd_ SgE A27 ((S.take (fnd S n).toNat) ++ (S.drop (fnd S n + 1).toNat)) c27 (fun k => (fun k => (fun k => (fun _ => False) k ∨ oks k) k ∨ oks k) k ∨ (Value.slice A27 ((S.take (fnd S n).toNat) ++ (S.drop (fnd S n + 1).toNat)).length c27).ownBlock = some k)), (3, .rd_ (.int .u8) Ar rt cr okr)], by rw [hE_] <;> rfl, by rw [hM_]; exact ⟨_, _, _, _, _, _, rfl⟩, grew_of (hH.sub [(1, .blk bd (.cells #[.slice A27 ((S.take (fnd S n).toNat) ++ (S.drop (fnd S n + 1).toNat)).length c27, .slice Ar rt.length cr] 61 (0, 0))), (2, .rd_ SgE A27 ((S.take (fnd S n).toNat) ++ (S.drop (fnd S n + 1).toNat)) c27 (fun k => (fun k => (fun k => (fun _ => False) k ∨ oks k) k ∨ oks k) k ∨ (Value.slice A27 ((S.take (fnd S n).toNat) ++ (S.drop (fnd S n + 1).toNat)).length c27).ownBlock = some k)), (3, .rd_ (.int .u8) Ar rt cr okr)] (sub_cons (sub_cons (sub_cons (sub_nil _) 3 rfl) 2 rfl) 1 rfl)) (rdin_cons (fun k h => h.elim) (rdin_cons (fun k h => h.elim (fun h => h.elim (fun h => h.elim (fun h => h.elim) (fun h => .inr (.inl ⟨2, _, rfl, h⟩))) (fun h => .inr (.inl ⟨2, _, rfl, h⟩))) (fun h => (hb27 k h).elim .inl (fun h => .inr (.inr (.inr h))))) (rdin_cons (fun k h => .inr (.inl ⟨3, _, rfl, h⟩)) rdin_nil)))⟩
          ·
            refine w_at hF (x_slice_h Try.underlying59 ty115 (hF.tmp 16 rfl) (hF.tmp 17 rfl) (by omega) (by omega) ((hH.rd 2 rfl)).1) rfl rfl ?_
            clear hF; intro a hF
            clear hS; have hS : SL _ _ := SL.of hH (sub_nil _); refine ⟨hS, ?_⟩
            refine r_do 1 rfl (by kernel_rfl) rfl rfl ?_
            refine w_lit0 SgE 12 hF hH rfl Try.underlying59 ty115 ?_
            clear hF hH; intro a w b12 hF hH
            clear hS; have hS : SL _ _ := SL.of hH (sub_nil _); refine ⟨hS, ?_⟩
            refine r_do 8 rfl (by kernel_rfl) rfl rfl ?_
            refine w_append 12 2 (xs := ([])) (ys := (S.take ((fnd S n).toNat))) hF hH rfl Try.underlying59 ty115 rfl rfl rfl rfl ((Rd.take ((hH.rd 2 rfl)) ((fnd S n).toNat))) (by intro k_ hk_; exact .inr hk_) (hF.tmp 12 rfl) (hF.tmp 18 rfl) (by simp only [List.length_nil, List.length_take]; omega) (by simp only [List.length_nil, List.length_take, maxLen]; omega) (fun k => (fun _ => False) k ∨ oks k) (fun w' v' h => h) (by rintro k_ (hk_ | hk_); exact .inl hk_; exact .inr hk_) ?_
            clear hF hH; intro a w v19 hF hH
            clear hS; have hS : SL _ _ := SL.of hH (sub_nil _); refine ⟨hS, ?_⟩
            rw [List.nil_append] at hH
            refine r_do 16 rfl (by kernel_rfl) rfl rfl ?_
            refine w_append 12 2 (xs := (S.take (fnd S n).toNat)) (ys := (S.drop (((fnd S n) + 1).toNat))) hF hH rfl Try.underlying59 ty115 rfl rfl rfl rfl ((Rd.drop ((hH.rd 2 rfl)) (by omega : ((fnd S n) + 1).toNat ≤ S.length))) (by intro k_ hk_; exact .inr hk_) (hF.tmp 19 rfl) (hF.tmp 26 rfl) (by simp only [List.length_drop, List.length_take]; omega) (by simp only [List.length_drop, List.length_take, maxLen]; omega) (fun k => (fun k => (fun _ => False) k ∨ oks k) k ∨ oks k) (fun w' v' h => h) (by rintro k_ (hk_ | hk_); exact .inl hk_; exact .inr hk_) ?_
            clear hF hH; intro a w v27 hF hH
            clear hS; have hS : SL _ _ := SL.of hH (sub_nil _); refine ⟨hS, ?_⟩
            obtain ⟨A27, c27, rfl⟩ := (hH.row 12 rfl).form
            have hb27 : ∀ k, (Value.slice A27 ((S.take (fnd S n).toNat) ++ (S.drop (fnd S n + 1).toNat)).length c27).ownBlock = some k → _ := hH.mine 12 _ rfl
            have hH := hH.freeze 12 rfl (fun k => (fun k => (fun k => (fun _ => False) k ∨ oks k) k ∨ oks k) k ∨ (Value.slice A27 ((S.take (fnd S n).toNat) ++ (S.drop (fnd S n + 1).toNat)).length c27).ownBlock = some k) (fun k => Iff.rfl)
            have hH := hH.subrd 12 rfl 2 (hH.rd 12 rfl) (fun _ h => h)
            refine r_take 17 hF rfl rfl rfl (by kernel_rfl) (by kernel_rfl) (by kernel_rfl) (fun _ _ _ h => h) rfl hS (fun w hS => x_nil (hF.tmp 11 rfl)) rfl ?_; clear hF; intro a hF
            refine r_take 18 hF rfl rfl rfl (by kernel_rfl) (by kernel_rfl) (by kernel_rfl) (fun _ _ _ h => h) rfl hS (fun w hS => x_faddr Try.underlying61 rfl ty59 (by decide) (hF.tmp 28 rfl) rfl) rfl ?_; clear hF; intro a hF
            refine r_do 19 rfl (by kernel_rfl) rfl rfl ?_
            refine w_store 1 hH ty59 rfl (hF.tmp 29 rfl) (hF.tmp 27 rfl) rfl (one1 rfl rfl) (by first | decide | exact Nat.le_of_ble_eq_true rfl) ?_
            clear hH; intro w hH
            clear hS; have hS : SL _ _ := SL.of hH (sub_nil _); refine ⟨hS, ?_⟩
            refine r_end (by kernel_rfl) ?_; clear hS
            refine hK6 _ _ ?_
            refine wp_seq_k fun khK48 hK48 => ?_
            refine wp_region_lit ?_
            refine l_at hF rfl rfl rfl (x_assign rfl) ?_; clear hF; intro a hF
            refine wpList_nil ?_
            refine hK48 _ _ ?_
            refine wp_ret ?_
            try simp only [Exit.then, Exit.inBlock]
            have hE_ := at_of hat.2.2
            have hM_ := (remS_on hat.2.2).resolve_right hc10
            refine fin_ret hF (res1 hF rfl rfl) ⟨Asn.all [(1, .blk bd (.cells #[.slice A27 ((S.take (fnd S n).toNat) ++ (S.drop (fnd S n + 1).toNat)).length c27, .slice Ar rt.length cr] 61 (0, 0))), (2, .rd_ SgE A27 ((S.take (fnd S n).toNat) ++ (S.drop (fnd S n + 1).toNat)) c27 (fun k => (fun k => (fun k => (fun _ => False) k ∨ oks k) k ∨ oks k) k ∨ (Value.slice A27 ((S.take (fnd S n).toNat) ++ (S.drop (fnd S n + 1).toNat)).length c27).ownBlock = some k)), (3, .rd_ (.int .u8) Ar rt cr okr)], by rw [hE_] <;> rfl, by rw [hM_]; exact ⟨_, _, _, _, _, _, rfl⟩, grew_of (hH.sub [(1, .blk bd (.cells #[.slice A27 ((S.take (fnd S n).toNat) ++ (S.drop (fnd S n + 1).toNat)).length c27, .slice Ar rt.length cr] 61 (0, 0))), (2, .rd_ SgE A27 ((S.take (fnd S n).toNat) ++ (S.drop (fnd S n + 1).toNat)) c27 (fun k => (fun k => (fun k => (fun _ => False) k ∨ oks k) k ∨ oks k) k ∨ (Value.slice A27 ((S.take (fnd S n).toNat) ++ (S.drop (fnd S n + 1).toNat)).length c27).ownBlock = some k)), (3, .rd_ (.int .u8) Ar rt cr okr)] (sub_cons (sub_cons (sub_cons (sub_nil _) 3 rfl) 2 rfl) 1 rfl)) (rdin_cons (fun k h => h.elim) (rdin_cons (fun k h => h.elim (fun h => h.elim (fun h => h.elim (fun h => h.elim) (fun h => .inr (.inl ⟨2, _, rfl, h⟩))) (fun h => .inr (.inl ⟨2, _, rfl, h⟩))) (fun h => (hb27 k h).elim .inl (fun h => .inr (.inr (.inr h))))) (rdin_cons (fun k h => .inr (.inl ⟨3, _, rfl, h⟩)) rdin_nil)))⟩
      ·
        refine w_at hF (x_slice_l (E := SgE) Try.underlying59 ty115 (hF.tmp 23 rfl) (hF.tmp 25 rfl) (by omega) (by omega) ((hH.rd 2 rfl)).1) rfl rfl ?_
        clear hF; intro a hF
        clear hS; have hS : SL _ _ := SL.of hH (sub_nil _); refine ⟨hS, ?_⟩
        refine r_do2 1 5 rfl rfl (by kernel_rfl) rfl rfl rfl rfl ?_ ?_
        ·
          refine w_lit0 SgE 12 hF hH rfl Try.underlying59 ty115 ?_
          clear hF hH; intro a w b12 hF hH
          clear hS; have hS : SL _ _ := SL.of hH (sub_nil _); refine ⟨hS, ?_⟩
          refine r_do 5 rfl (by kernel_rfl) rfl rfl ?_
          refine w_at hF (x_load1 ty59 (hF.tmp 15 rfl) (blk_cell (hH.at 1 rfl) 0 rfl)) rfl rfl ?_
          clear hF; intro a hF
          clear hS; have hS : SL _ _ := SL.of hH (sub_nil _); refine ⟨hS, ?_⟩
          refine r_do 7 rfl (by kernel_rfl) rfl rfl ?_
          refine w_at hF (x_slice_h Try.underlying59 ty115 (hF.tmp 16 rfl) (hF.tmp 17 rfl) (by omega) (by omega) ((hH.rd 2 rfl)).1) rfl rfl ?_
          clear hF; intro a hF
          clear hS; have hS : SL _ _ := SL.of hH (sub_nil _); refine ⟨hS, ?_⟩
          refine r_do 8 rfl (by kernel_rfl) rfl rfl ?_
          refine w_append 12 2 (xs := ([])) (ys := (S.take ((fnd S n).toNat))) hF hH rfl Try.underlying59 ty115 rfl rfl rfl rfl ((Rd.take ((hH.rd 2 rfl)) ((fnd S n).toNat))) (by intro k_ hk_; exact .inr hk_) (hF.tmp 12 rfl) (hF.tmp 18 rfl) (by simp only [List.length_nil, List.length_take]; omega) (by simp only [List.length_nil, List.length_take, maxLen]; omega) (fun k => (fun _ => False) k ∨ oks k) (fun w' v' h => h) (by rintro k_ (hk_ | hk_); exact .inl hk_; exact .inr hk_) ?_
          clear hF hH; intro a w v19 hF hH
          clear hS; have hS : SL _ _ := SL.of hH (sub_nil _); refine ⟨hS, ?_⟩
          rw [List.nil_append] at hH
          refine r_do 16 rfl (by kernel_rfl) rfl rfl ?_
          refine w_append 12 2 (xs := (S.take (fnd S n).toNat)) (ys := (S.drop (((fnd S n) + 1).toNat))) hF hH rfl Try.underlying59 ty115 rfl rfl rfl rfl ((Rd.drop ((hH.rd 2 rfl)) (by omega : ((fnd S n) + 1).toNat ≤ S.length))) (by intro k_ hk_; exact .inr hk_) (hF.tmp 19 rfl) (hF.tmp 26 rfl) (by simp only [List.length_drop, List.length_take]; omega) (by simp only [List.length_drop, List.length_take, maxLen]; omega) (fun k => (fun k => (fun _ => False) k ∨ oks k) k ∨ oks k) (fun w' v' h => h) (by rintro k_ (hk_ | hk_); exact .inl hk_; exact .inr hk_) ?_
          clear hF hH; intro a w v27 hF hH
          clear hS; have hS : SL _ _ := SL.of hH (sub_nil _); refine ⟨hS, ?_⟩
          obtain ⟨A27, c27, rfl⟩ := (hH.row 12 rfl).form
          have hb27 : ∀ k, (Value.slice A27 ((S.take (fnd S n).toNat) ++ (S.drop (fnd S n + 1).toNat)).length c27).ownBlock = some k → _ := hH.mine 12 _ rfl
          have hH := hH.freeze 12 rfl (fun k => (fun k => (fun k => (fun _ => False) k ∨ oks k) k ∨ oks k) k ∨ (Value.slice A27 ((S.take (fnd S n).toNat) ++ (S.drop (fnd S n + 1).toNat)).length c27).ownBlock = some k) (fun k => Iff.rfl)
          have hH := hH.subrd 12 rfl 2 (hH.rd 12 rfl) (fun _ h => h)
          refine r_take 17 hF rfl rfl rfl (by kernel_rfl) (by kernel_rfl) (by kernel_rfl) (fun _ _ _ h => h) rfl hS (fun w hS => x_nil (hF.tmp 11 rfl)) rfl ?_; clear hF; intro a hF
          refine r_take 18 hF rfl rfl rfl (by kernel_rfl) (by kernel_rfl) (by kernel_rfl) (fun _ _ _ h => h) rfl hS (fun w hS => x_faddr Try.underlying61 rfl ty59 (by decide) (hF.tmp 28 rfl) rfl) rfl ?_; clear hF; intro a hF
          refine r_do 19 rfl (by kernel_rfl) rfl rfl ?_
          refine w_store 1 hH ty59 rfl (hF.tmp 29 rfl) (hF.tmp 27 rfl) rfl (one1 rfl rfl) (by first | decide | exact Nat.le_of_ble_eq_true rfl) ?_
          clear hH; intro w hH
          clear hS; have hS : SL _ _ := SL.of hH (sub_nil _); refine ⟨hS, ?_⟩
          refine r_end (by kernel_rfl) ?_; clear hS
          refine hK6 _ _ ?_
          refine wp_seq_k fun khK49 hK49 => ?_
          refine wp_region_lit ?_
          refine l_at hF rfl rfl rfl (x_assign rfl) ?_; clear hF; intro a hF
          refine wpList_nil ?_
          refine hK49 _ _ ?_
          refine wp_ret ?_
          try simp only [Exit.then, Exit.inBlock]
          have hE_ := at_of hat.2.2
          have hM_ := (remS_on hat.2.2).resolve_right hc10
          refine fin_ret hF (res1 hF rfl rfl) ⟨Asn.all [(1, .blk bd (.cells #[.slice A27 ((S.take (fnd S n).toNat) ++ (S.drop (fnd S n + 1).toNat)).length c27, .slice Ar rt.length cr] 61 (0, 0))), (2, .rd_ SgE A27 ((S.take (fnd S n).toNat) ++ (S.drop (fnd S n + 1).toNat)) c27 (fun k => (fun k => (fun k => (fun _ => False) k ∨ oks k) k ∨ oks k) k ∨ (Value.slice A27 ((S.take (fnd S n).toNat) ++ (S.drop (fnd S n + 1).toNat)).length c27).ownBlock = some k)), (3, .rd_ (.int .u8) Ar rt cr okr)], by rw [hE_] <;> rfl, by rw [hM_]; exact ⟨_, _, _, _, _, _, rfl⟩, grew_of (hH.sub [(1, .blk bd (.cells #[.slice A27 ((S.take (fnd S n).toNat) ++ (S.drop (fnd S n + 1).toNat)).length c27, .slice Ar rt.length cr] 61 (0, 0))), (2, .rd_ SgE A27 ((S.take (fnd S n).toNat) ++ (S.drop (fnd S n + 1).toNat)) c27 (fun k => (fun k => (fun k => (fun _ => False) k ∨ oks k) k ∨ oks k) k ∨ (Value.slice A27 ((S.take (fnd S n).toNat) ++ (S.drop (fnd S n + 1).toNat)).length c27).ownBlock = some k)), (3, .rd_ (.int .u8) Ar rt cr okr)] (sub_cons (sub_cons (sub_cons (sub_nil _) 3 rfl) 2 rfl) 1 rfl)) (rdin_cons (fun k h => h.elim) (rdin_cons (fun k h => h.elim (fun h => h.elim (fun h => h.elim (fun h => h.elim) (fun h => .inr (.inl ⟨2, _, rfl, h⟩))) (fun h => .inr (.inl ⟨2, _, rfl, h⟩))) (fun h => (hb27 k h).elim .inl (fun h => .inr (.inr (.inr h))))) (rdin_cons (fun k h => .inr (.inl ⟨3, _, rfl, h⟩)) rdin_nil)))⟩
        ·
          refine w_at hF (x_load1 ty59 (hF.tmp 15 rfl) (blk_cell (hH.at 1 rfl) 0 rfl)) rfl rfl ?_
          clear hF; intro a hF
          clear hS; have hS : SL _ _ := SL.of hH (sub_nil _); refine ⟨hS, ?_⟩
          refine r_do2 1 7 rfl rfl (by kernel_rfl) rfl rfl rfl rfl ?_ ?_
          ·
            refine w_lit0 SgE 12 hF hH rfl Try.underlying59 ty115 ?_
            clear hF hH; intro a w b12 hF hH
            clear hS; have hS : SL _ _ := SL.of hH (sub_nil _); refine ⟨hS, ?_⟩
            refine r_do 7 rfl (by kernel_rfl) rfl rfl ?_
            refine w_at hF (x_slice_h Try.underlying59 ty115 (hF.tmp 16 rfl) (hF.tmp 17 rfl) (by omega) (by omega) ((hH.rd 2 rfl)).1) rfl rfl ?_
            clear hF; intro a hF
            clear hS; have hS : SL _ _ := SL.of hH (sub_nil _); refine ⟨hS, ?_⟩
            refine r_do 8 rfl (by kernel_rfl) rfl rfl ?_
            refine w_append 12 2 (xs := ([])) (ys := (S.take ((fnd S n).toNat))) hF hH rfl Try.underlying59 ty115 rfl rfl rfl rfl ((Rd.take ((hH.rd 2 rfl)) ((fnd S n).toNat))) (by intro k_ hk_; exact .inr hk_) (hF.tmp 12 rfl) (hF.tmp 18 rfl) (by simp only [List.length_nil, List.length_take]; omega) (by simp only [List.length_nil, List.length_take, maxLen]; omega) (fun k => (fun _ => False) k ∨ oks k) (fun w' v' h => h) (by rintro k_ (hk_ | hk_); exact .inl hk_; exact .inr hk_) ?_
            clear hF hH; intro a w v19 hF hH
            clear hS; have hS : SL _ _ := SL.of hH (sub_nil _); refine ⟨hS, ?_⟩
            rw [List.nil_append] at hH
            refine r_do 16 rfl (by kernel_rfl) rfl rfl ?_
            refine w_append 12 2 (xs := (S.take (fnd S n).toNat)) (ys := (S.drop (((fnd S n) + 1).toNat))) hF hH rfl Try.underlying59 ty115 rfl rfl rfl rfl ((Rd.drop ((hH.rd 2 rfl)) (by omega : ((fnd S n) + 1).toNat ≤ S.length))) (by intro k_ hk_; exact .inr hk_) (hF.tmp 19 rfl) (hF.tmp 26 rfl) (by simp only [List.length_drop, List.length_take]; omega) (by simp only [List.length_drop, List.length_take, maxLen]; omega) (fun k => (fun k => (fun _ => False) k ∨ oks k) k ∨ oks k) (fun w' v' h => h) (by rintro k_ (hk_ | hk_); exact .inl hk_; exact .inr hk_) ?_
            clear hF hH; intro a w v27 hF hH
            clear hS; have hS : SL _ _ := SL.of hH (sub_nil _); refine ⟨hS, ?_⟩
            obtain ⟨A27, c27, rfl⟩ := (hH.row 12 rfl).form
            have hb27 : ∀ k, (Value.slice A27 ((S.take (fnd S n).toNat) ++ (S.drop (fnd S n + 1).toNat)).length c27).ownBlock = some k → _ := hH.mine 12 _ rfl
            have hH := hH.freeze 12 rfl (fun k => (fun k => (fun k => (fun _ => False) k ∨ oks k) k ∨ oks k) k ∨ (Value.slice A27 ((S.take (fnd S n).toNat) ++ (S.drop (fnd S n + 1).toNat)).length c27).ownBlock = some k) (fun k => Iff.rfl)
            have hH := hH.subrd 12 rfl 2 (hH.rd 12 rfl) (fun _ h => h)
            refine r_take 17 hF rfl rfl rfl (by kernel_rfl) (by kernel_rfl) (by kernel_rfl) (fun _ _ _ h => h) rfl hS (fun w hS => x_nil (hF.tmp 11 rfl)) rfl ?_; clear hF; intro a hF
            refine r_take 18 hF rfl rfl rfl (by kernel_rfl) (by kernel_rfl) (by kernel_rfl) (fun _ _ _ h => h) rfl hS (fun w hS => x_faddr Try.underlying61 rfl ty59 (by decide) (hF.tmp 28 rfl) rfl) rfl ?_; clear hF; intro a hF
            refine r_do 19 rfl (by kernel_rfl) rfl rfl ?_
            refine w_store 1 hH ty59 rfl (hF.tmp 29 rfl) (hF.tmp 27 rfl) rfl (one1 rfl rfl) (by first | decide | exact Nat.le_of_ble_eq_true rfl) ?_
            clear hH; intro w hH
            clear hS; have hS : SL _ _ := SL.of hH (sub_nil _); refine ⟨hS, ?_⟩
            refine r_end (by kernel_rfl) ?_; clear hS
            refine hK6 _ _ ?_
            refine wp_seq_k fun khK50 hK50 => ?_
            refine wp_region_lit ?_
            refine l_at hF rfl rfl rfl (x_assign rfl) ?_; clear hF; intro a hF
            refine wpList_nil ?_
            refine hK50 _ _ ?_
            refine wp_ret ?_
            try simp only [Exit.then, Exit.inBlock]
            have hE_ := at_of hat.2.2
            have hM_ := (remS_on hat.2.2).resolve_right hc10
            refine fin_ret hF (res1 hF rfl rfl) ⟨Asn.all [(1, .blk bd (.cells #[.slice A27 ((S.take (fnd S n).toNat) ++ (S.drop (fnd S n + 1).toNat)).length c27, .slice Ar rt.length cr] 61 (0, 0))), (2, .rd_ SgE A27 ((S.take (fnd S n).toNat) ++ (S.drop (fnd S n + 1).toNat)) c27 (fun k => (fun k => (fun k => (fun _ => False) k ∨ oks k) k ∨ oks k) k ∨ (Value.slice A27 ((S.take (fnd S n).toNat) ++ (S.drop (fnd S n + 1).toNat)).length c27).ownBlock = some k)), (3, .rd_ (.int .u8) Ar rt cr okr)], by rw [hE_] <;> rfl, by rw [hM_]; exact ⟨_, _, _, _, _, _, rfl⟩, grew_of (hH.sub [(1, .blk bd (.cells #[.slice A27 ((S.take (fnd S n).toNat) ++ (S.drop (fnd S n + 1).toNat)).length c27, .slice Ar rt.length cr] 61 (0, 0))), (2, .rd_ SgE A27 ((S.take (fnd S n).toNat) ++ (S.drop (fnd S n + 1).toNat)) c27 (fun k => (fun k => (fun k => (fun _ => False) k ∨ oks k) k ∨ oks k) k ∨ (Value.slice A27 ((S.take (fnd S n).toNat) ++ (S.drop (fnd S n + 1).toNat)).length c27).ownBlock = some k)), (3, .rd_ (.int .u8) Ar rt cr okr)] (sub_cons (sub_cons (sub_cons (sub_nil _) 3 rfl) 2 rfl) 1 rfl)) (rdin_cons (fun k h => h.elim) (rdin_cons (fun k h => h.elim (fun h => h.elim (fun h => h.elim (fun h => h.elim) (fun h => .inr (.inl ⟨2, _, rfl, h⟩))) (fun h => .inr (.inl ⟨2, _, rfl, h⟩))) (fun h => (hb27 k h).elim .inl (fun h => .inr (.inr (.inr h))))) (rdin_cons (fun k h => .inr (.inl ⟨3, _, rfl, h⟩)) rdin_nil)))⟩
          ·
            refine w_at hF (x_slice_h Try.underlying59 ty115 (hF.tmp 16 rfl) (hF.tmp 17 rfl) (by omega) (by omega) ((hH.rd 2 rfl)).1) rfl rfl ?_
            clear hF; intro a hF
            clear hS; have hS : SL _ _ := SL.of hH (sub_nil _); refine ⟨hS, ?_⟩
            refine r_do 1 rfl (by kernel_rfl) rfl rfl ?_
            refine w_lit0 SgE 12 hF hH rfl Try.underlying59 ty115 ?_
            clear hF hH; intro a w b12 hF hH
            clear hS; have hS : SL _ _ := SL.of hH (sub_nil _); refine ⟨hS, ?_⟩
            refine r_do 8 rfl (by kernel_rfl) rfl rfl ?_
            refine w_append 12 2 (xs := ([])) (ys := (S.take ((fnd S n).toNat))) hF hH rfl Try.underlying59 ty115 rfl rfl rfl rfl ((Rd.take ((hH.rd 2 rfl)) ((fnd S n).toNat))) (by intro k_ hk_; exact .inr hk_) (hF.tmp 12 rfl) (hF.tmp 18 rfl) (by simp only [List.length_nil, List.length_take]; omega) (by simp only [List.length_nil, List.length_take, maxLen]; omega) (fun k => (fun _ => False) k ∨ oks k) (fun w' v' h => h) (by rintro k_ (hk_ | hk_); exact .inl hk_; exact .inr hk_) ?_
            clear hF hH; intro a w v19 hF hH
            clear hS; have hS : SL _ _ := SL.of hH (sub_nil _); refine ⟨hS, ?_⟩
            rw [List.nil_append] at hH
            refine r_do 16 rfl (by kernel_rfl) rfl rfl ?_
            refine w_append 12 2 (xs := (S.take (fnd S n).toNat)) (ys := (S.drop (((fnd S n) + 1).toNat))) hF hH rfl Try.underlying59 ty115 rfl rfl rfl rfl ((Rd.drop ((hH.rd 2 rfl)) (by omega : ((fnd S n) + 1).toNat ≤ S.length))) (by intro k_ hk_; exact .inr hk_) (hF.tmp 19 rfl) (hF.tmp 26 rfl) (by simp only [List.length_drop, List.length_take]; omega) (by simp only [List.length_drop, List.length_take, maxLen]; omega) (fun k => (fun k => (fun _ => False) k ∨ oks k) k ∨ oks k) (fun w' v' h => h) (by rintro k_ (hk_ | hk_); exact .inl hk_; exact .inr hk_) ?_
            clear hF hH; intro a w v27 hF hH
            clear hS; have hS : SL _ _ := SL.of hH (sub_nil _); refine ⟨hS, ?_⟩
            obtain ⟨A27, c27, rfl⟩ := (hH.row 12 rfl).form
            have hb27 : ∀ k, (Value.slice A27 ((S.take (fnd S n).toNat) ++ (S.drop (fnd S n + 1).toNat)).length c27).ownBlock = some k → _ := hH.mine 12 _ rfl
            have hH := hH.freeze 12 rfl (fun k => (fun k => (fun k => (fun _ => False) k ∨ oks k) k ∨ oks k) k ∨ (Value.slice A27 ((S.take (fnd S n).toNat) ++ (S.drop (fnd S n + 1).toNat)).length c27).ownBlock = some k) (fun k => Iff.rfl)
            have hH := hH.subrd 12 rfl 2 (hH.rd 12 rfl) (fun _ h => h)
            refine r_take 17 hF rfl rfl rfl (by kernel_rfl) (by kernel_rfl) (by kernel_rfl) (fun _ _ _ h => h) rfl hS (fun w hS => x_nil (hF.tmp 11 rfl)) rfl ?_; clear hF; intro a hF
            refine r_take 18 hF rfl rfl rfl (by kernel_rfl) (by kernel_rfl) (by kernel_rfl) (fun _ _ _ h => h) rfl hS (fun w hS => x_faddr Try.underlying61 rfl ty59 (by decide) (hF.tmp 28 rfl) rfl) rfl ?_; clear hF; intro a hF
            refine r_do 19 rfl (by kernel_rfl) rfl rfl ?_
            refine w_store 1 hH ty59 rfl (hF.tmp 29 rfl) (hF.tmp 27 rfl) rfl (one1 rfl rfl) (by first | decide | exact Nat.le_of_ble_eq_true rfl) ?_
            clear hH; intro w hH
            clear hS; have hS : SL _ _ := SL.of hH (sub_nil _); refine ⟨hS, ?_⟩
            refine r_end (by kernel_rfl) ?_; clear hS
            refine hK6 _ _ ?_
            refine wp_seq_k fun khK51 hK51 => ?_
            refine wp_region_lit ?_
            refine l_at hF rfl rfl rfl (x_assign rfl) ?_; clear hF; intro a hF
            refine wpList_nil ?_
            refine hK51 _ _ ?_
            refine wp_ret ?_
            try simp only [Exit.then, Exit.inBlock]
            have hE_ := at_of hat.2.2
            have hM_ := (remS_on hat.2.2).resolve_right hc10
            refine fin_ret hF (res1 hF rfl rfl) ⟨Asn.all [(1, .blk bd (.cells #[.slice A27 ((S.take (fnd S n).toNat) ++ (S.drop (fnd S n + 1).toNat)).length c27, .slice Ar rt.length cr] 61 (0, 0))), (2, .rd_ SgE A27 ((S.take (fnd S n).toNat) ++ (S.drop (fnd S n + 1).toNat)) c27 (fun k => (fun k => (fun k => (fun _ => False) k ∨ oks k) k ∨ oks k) k ∨ (Value.slice A27 ((S.take (fnd S n).toNat) ++ (S.drop (fnd S n + 1).toNat)).length c27).ownBlock = some k)), (3, .rd_ (.int .u8) Ar rt cr okr)], by rw [hE_] <;> rfl, by rw [hM_]; exact ⟨_, _, _, _, _, _, rfl⟩, grew_of (hH.sub [(1, .blk bd (.cells #[.slice A27 ((S.take (fnd S n).toNat) ++ (S.drop (fnd S n + 1).toNat)).length c27, .slice Ar rt.length cr] 61 (0, 0))), (2, .rd_ SgE A27 ((S.take (fnd S n).toNat) ++ (S.drop (fnd S n + 1).toNat)) c27 (fun k => (fun k => (fun k => (fun _ => False) k ∨ oks k) k ∨ oks k) k ∨ (Value.slice A27 ((S.take (fnd S n).toNat) ++ (S.drop (fnd S n + 1).toNat)).length c27).ownBlock = some k)), (3, .rd_ (.int .u8) Ar rt cr okr)] (sub_cons (sub_cons (sub_cons (sub_nil _) 3 rfl) 2 rfl) 1 rfl)) (rdin_cons (fun k h => h.elim) (rdin_cons (fun k h => h.elim (fun h => h.elim (fun h => h.elim (fun h => h.elim) (fun h => .inr (.inl ⟨2, _, rfl, h⟩))) (fun h => .inr (.inl ⟨2, _, rfl, h⟩))) (fun h => (hb27 k h).elim .inl (fun h => .inr (.inr (.inr h))))) (rdin_cons (fun k h => .inr (.inl ⟨3, _, rfl, h⟩)) rdin_nil)))⟩

end Go.Proofs.Ytkocinnoncacgaa.Dsk
