/- DiskPlays, walked. -/
import Derived.Test.YtkocinnoncacgaaDskK
import Derived.Test.YtkocinnoncacgaaSto
set_option linter.unusedVariables false
set_option linter.unusedSimpArgs false
namespace Go.Proofs.Ytkocinnoncacgaa.Dsk
open Go.RowKit Go.Proofs.Ytkocinnoncacgaa.Sx
theorem ty63 : TyI Try.prog 63 (.agg #[.int .i64 0, .int .i64 0, .int .i64 0, .slice none 0 0, .slice none 0 0]) 5 72 true := ⟨by kernel_rfl, _, Try.underlying63, rfl⟩
set_option maxRecDepth 100000 in
set_option maxHeartbeats 1000000 in
theorem alike_calls (w0 : World) {X Y : Asn} {bd br : Nat} {m S : DM} {rt : List Int} (hX : DiskA 106 bd m rt X) (hok : X.ok w0) (hY : RefA 61 br S rt Y) (hokY : Y.ok w0) (hM : Mt m S) (hinv : DInv m) (hrt : rt.length ≤ 100000000) : Calls Try.prog 38 #[.pointer (some ⟨bd, 0, none⟩), .pointer (some ⟨br, 0, none⟩)] w0 fun e w' => e = .returned (.bool true) ∧ Mods (fun _ => False) w0 w' := by
  obtain ⟨As, cs, Ar, cr, oks, okr, rfl⟩ := hY
  refine calls_of_wp Try.func38 rfl ?_
  have hF := Fr.enter #[.pointer (some ⟨bd, 0, none⟩), .pointer (some ⟨br, 0, none⟩)] 88 (slotsOf [.pointer (some ⟨bd, 0, none⟩), .pointer (some ⟨br, 0, none⟩)] 0) (Nat.le_of_ble_eq_true rfl) (fun i v h => by have h2 := (get_slotsOf _ 0 i v h).2; simpa only [List.getElem?_toArray, Nat.sub_zero] using h2)
  rw [Try.ntmps38]
  revert hF; generalize (⟨(#[.pointer (some ⟨bd, 0, none⟩), .pointer (some ⟨br, 0, none⟩)] : Array Value) ++ Array.replicate (88 - (#[.pointer (some ⟨bd, 0, none⟩), .pointer (some ⟨br, 0, none⟩)] : Array Value).size) undef, []⟩ : Act) = a; intro hF
  have hH := ref_ro hokY.holds
  have hleS := (hH.rd 2 rfl).le; unfold maxLen at hleS
  refine wp_seq_k fun khK1 hK1 => ?_
  refine wp_region_lit ?_
  refine l_at hF rfl rfl rfl (x_assign rfl) ?_; clear hF; intro a hF
  refine wpList_nil ?_
  refine hK1 _ _ ?_
  refine wp_seq_k fun khK2 hK2 => ?_
  refine r_start [(1, .ro (.blk br (.cells #[.slice As S.length cs, .slice Ar rt.length cr] 61 (0, 0)))), (2, .rd_ SgE As S cs oks)] (by kernel_rfl) hH fun hH => ?_
  have hS : SL [(1, .ro (.blk br (.cells #[.slice As S.length cs, .slice Ar rt.length cr] 61 (0, 0)))), (2, .rd_ SgE As S cs oks)] _ := SL.of hH (sub_cons (sub_cons (sub_nil _) 2 rfl) 1 rfl)
  refine r_take 0 hF rfl rfl rfl (by kernel_rfl) (by kernel_rfl) (by kernel_rfl) (fun _ _ _ h => h) rfl hS (fun w hS => x_move (hF.tmp 0 rfl)) rfl ?_; clear hF; intro a hF
  refine r_take 2 hF rfl rfl rfl (by kernel_rfl) (by kernel_rfl) (by kernel_rfl) (fun _ _ _ h => h) rfl hS (fun w hS => x_move (hF.tmp 1 rfl)) rfl ?_; clear hF; intro a hF
  refine r_take 3 hF rfl rfl rfl (by kernel_rfl) (by kernel_rfl) (by kernel_rfl) (fun _ _ _ h => h) rfl hS (fun w hS => x_nil (hF.tmp 11 rfl)) rfl ?_; clear hF; intro a hF
  refine r_take 4 hF rfl rfl rfl (by kernel_rfl) (by kernel_rfl) (by kernel_rfl) (fun _ _ _ h => h) rfl hS (fun w hS => x_faddr Try.underlying61 rfl ty59 (by decide) (hF.tmp 12 rfl) rfl) rfl ?_; clear hF; intro a hF
  refine r_take 5 hF rfl rfl rfl (by kernel_rfl) (by kernel_rfl) (by kernel_rfl) (fun _ _ _ h => h) rfl hS (fun w hS => x_load1 ty59 (hF.tmp 13 rfl) (blk_cell (SL.atro hS 1 rfl) 0 rfl)) rfl ?_; clear hF; intro a hF
  refine r_do 1 rfl (by kernel_rfl) rfl rfl ?_
  refine w_call hF (x_enter Try.func40 (by kernel_rfl) rfl (by simp only [List.map_toArray, List.map_cons, List.map_nil, hF.tmp 9 rfl] <;> rfl)) (segs_calls _ hX (hok.same hH.mods) (by have := hinv.few; omega)) rfl rfl ?_
  rintro _ w ⟨v10, rfl, hm_, hr_⟩; refine ⟨_, rfl, ?_⟩; clear hF; intro a hF; have hH := Hp.rowOut hH 10 hm_ (xs := (keysL m)) hr_; obtain ⟨A10, c10, rfl⟩ := (hH.row 10 rfl).form
  clear hS; have hS : SL _ _ := SL.of hH (sub_cons (sub_cons (sub_nil _) 2 rfl) 1 rfl); refine ⟨hS, ?_⟩
  refine r_do 6 rfl (by kernel_rfl) rfl rfl ?_
  refine w_call hF (x_enter Try.func71 (by kernel_rfl) rfl (by simp only [List.map_toArray, List.map_cons, List.map_nil, hF.tmp 10 rfl, hF.tmp 14 rfl] <;> rfl)) (rsame_calls _ (Row.rd (ok' := fun k_ => (fun _ => False) k_ ∨ (.slice A10 (keysL m).length c10 : Value).ownBlock = some k_) (hH.row 10 rfl) (fun _ hk_ _ => .inl hk_) (fun _ hk_ => .inr hk_)) (hH.rd 2 rfl) hM.keysL_) rfl rfl ?_
  rintro _ w ⟨rfl, hm_⟩; refine ⟨_, rfl, ?_⟩; clear hF; intro a hF; have hH := hH.same hm_
  clear hS; have hS : SL _ _ := SL.of hH (sub_cons (sub_cons (sub_nil _) 2 rfl) 1 rfl); refine ⟨hS, ?_⟩
  refine r_take 7 hF rfl rfl rfl (by kernel_rfl) (by kernel_rfl) (by kernel_rfl) (fun _ _ _ h => h) rfl hS (fun w hS => x_assign (hF.tmp 15 rfl)) rfl ?_; clear hF; intro a hF
  refine r_end (by kernel_rfl) ?_; clear hS
  refine hK2 _ _ ?_
  refine wp_seq_k fun khK3 hK3 => ?_
  refine wp_seq_k fun khK4 hK4 => ?_
  refine r_start [(1, .ro (.blk br (.cells #[.slice As S.length cs, .slice Ar rt.length cr] 61 (0, 0)))), (3, .rd_ (.int .u8) Ar rt cr okr)] (by kernel_rfl) hH fun hH => ?_
  have hS : SL [(1, .ro (.blk br (.cells #[.slice As S.length cs, .slice Ar rt.length cr] 61 (0, 0)))), (3, .rd_ (.int .u8) Ar rt cr okr)] _ := SL.of hH (sub_cons (sub_cons (sub_nil _) 3 rfl) 1 rfl)
  refine r_take 0 hF rfl rfl rfl (by kernel_rfl) (by kernel_rfl) (by kernel_rfl) (fun _ _ _ h => h) rfl hS (fun w hS => x_move (hF.tmp 5 rfl)) rfl ?_; clear hF; intro a hF
  refine r_take 1 hF rfl rfl rfl (by kernel_rfl) (by kernel_rfl) (by kernel_rfl) (fun _ _ _ h => h) rfl hS (fun w hS => x_not (hF.tmp 16 rfl)) rfl ?_; clear hF; intro a hF
  refine r_take 2 hF rfl rfl rfl (by kernel_rfl) (by kernel_rfl) (by kernel_rfl) (fun _ _ _ h => h) rfl hS (fun w hS => x_move (hF.tmp 17 rfl)) rfl ?_; clear hF; intro a hF
  refine r_take 3 hF rfl rfl rfl (by kernel_rfl) (by kernel_rfl) (by kernel_rfl) (fun _ _ _ h => h) ((wanted_of hF rfl rfl rfl rfl).trans rfl) hS (fun w hS => x_move (hF.tmp 0 rfl)) rfl ?_; clear hF; intro a hF
  refine r_take 6 hF rfl rfl rfl (by kernel_rfl) (by kernel_rfl) (by kernel_rfl) (fun _ _ _ h => h) ((wanted_of hF rfl rfl rfl rfl).trans rfl) hS (fun w hS => x_move (hF.tmp 1 rfl)) rfl ?_; clear hF; intro a hF
  refine r_take 7 hF rfl rfl rfl (by kernel_rfl) (by kernel_rfl) (by kernel_rfl) (fun _ _ _ h => h) ((wanted_of hF rfl rfl rfl rfl).trans rfl) hS (fun w hS => x_nil (hF.tmp 22 rfl)) rfl ?_; clear hF; intro a hF
  refine r_take 8 hF rfl rfl rfl (by kernel_rfl) (by kernel_rfl) (by kernel_rfl) (fun _ _ _ h => h) ((wanted_of hF rfl rfl rfl rfl).trans rfl) hS (fun w hS => x_faddr Try.underlying61 rfl ty42 (by decide) (hF.tmp 23 rfl) rfl) rfl ?_; clear hF; intro a hF
  refine r_take 9 hF rfl rfl rfl (by kernel_rfl) (by kernel_rfl) (by kernel_rfl) (fun _ _ _ h => h) ((wanted_of hF rfl rfl rfl rfl).trans rfl) hS (fun w hS => x_load1 ty42 (hF.tmp 24 rfl) (blk_cell (SL.atro hS 1 rfl) 1 rfl)) rfl ?_; clear hF; intro a hF
  refine r_take 10 hF rfl rfl rfl (by kernel_rfl) (by kernel_rfl) (by kernel_rfl) (fun _ _ _ h => h) ((wanted_of hF rfl rfl rfl rfl).trans rfl) hS (fun w hS => x_b2s Try.underlying42 Try.underlying5 Try.underlying9 ((SL.rd hS 3 rfl)) (hF.tmp 25 rfl)) rfl ?_; clear hF; intro a hF
  refine r_do 4 rfl (by kernel_rfl) ((wanted_of hF rfl rfl rfl rfl).trans rfl) rfl ?_
  refine w_call hF (x_enter Try.func30 (by kernel_rfl) rfl (by simp only [List.map_toArray, List.map_cons, List.map_nil, hF.tmp 19 rfl] <;> rfl)) (root_calls _ hX (hok.same hH.mods) hrt) rfl rfl ?_
  rintro _ w ⟨vr20, rfl, hm_, hr_⟩; refine ⟨_, rfl, ?_⟩; clear hF; intro a hF; have hH := Hp.rowOut hH 20 hm_ hr_; obtain ⟨Ar20, cr20, rfl⟩ := (hH.row 20 rfl).form
  clear hS; have hS : SL _ _ := SL.of hH (sub_cons (sub_cons (sub_nil _) 3 rfl) 1 rfl); refine ⟨hS, ?_⟩
  refine r_do 5 rfl (by kernel_rfl) ((wanted_of hF rfl rfl rfl rfl).trans rfl) rfl ?_
  refine w_at hF (x_b2s Try.underlying42 Try.underlying5 Try.underlying9 (Row.rd (ok' := fun k_ => (fun _ => False) k_ ∨ (.slice Ar20 rt.length cr20 : Value).ownBlock = some k_) (hH.row 20 rfl) (fun _ hk_ _ => .inl hk_) (fun _ hk_ => .inr hk_)) (hF.tmp 20 rfl)) rfl rfl ?_
  clear hF; intro a hF
  clear hS; have hS : SL _ _ := SL.of hH (sub_cons (sub_cons (sub_nil _) 3 rfl) 1 rfl); refine ⟨hS, ?_⟩
  refine r_take 11 hF rfl rfl rfl (by kernel_rfl) (by kernel_rfl) (by kernel_rfl) (fun _ _ _ h => h) ((wanted_of hF rfl rfl rfl rfl).trans rfl) hS (fun w hS => x_nes (hF.tmp 21 rfl) (hF.tmp 26 rfl)) rfl ?_; clear hF; intro a hF
  rw [show ((!decide ((strOfNums rt) = (strOfNums rt)))) = false by rw [decide_eq_true rfl]; rfl] at hF
  refine r_take 12 hF rfl rfl rfl (by kernel_rfl) (by kernel_rfl) (by kernel_rfl) (fun _ _ _ h => h) rfl hS (fun w hS => x_pickF (hF.tmp 18 rfl) rfl (hF.tmp 27 rfl)) rfl ?_; clear hF; intro a hF
  refine r_end (by kernel_rfl) ?_; clear hS
  refine hK4 _ _ ?_
  refine wp_cond_false (hF.tmp 28 rfl) ?_
  refine wp_skip ?_
  refine hK3 _ _ ?_
  refine wp_seq_k fun khK5 hK5 => ?_
  refine wp_seq_k fun khK6 hK6 => ?_
  refine wp_region_lit ?_
  refine l_at hF rfl rfl rfl (x_assign rfl) ?_; clear hF; intro a hF
  refine wpList_nil ?_
  refine hK6 _ _ ?_
  refine wp_block ?_
  refine wp_loop_ghost (fun n_ a w => ∃ j : Nat, n_ = S.length - j ∧ (j ≤ S.length) ∧ Fr 88 a [(0, .pointer (some ⟨bd, 0, none⟩)), (1, .pointer (some ⟨br, 0, none⟩)), (6, .int .i64 (j : Int))] ∧ Hp (fun _ => False) w0 w [(1, .ro (.blk br (.cells #[.slice As S.length cs, .slice Ar rt.length cr] 61 (0, 0)))), (2, .rd_ SgE As S cs oks), (3, .rd_ (.int .u8) Ar rt cr okr)]) (S.length) ?_ ?_
  · exact ⟨0, rfl, by omega, (((hF.bare.add hF 6 rfl).add hF 1 rfl).add hF 0 rfl), hH.sub _ (sub_cons (sub_cons (sub_cons (sub_nil _) 3 rfl) 2 rfl) 1 rfl)⟩
  · rintro _ a w ⟨j, rfl, hq0_0, hF, hH⟩
    refine wp_seq_k fun khK7 hK7 => ?_
    refine wp_seq_k fun khK8 hK8 => ?_
    refine wp_region_lit ?_
    refine l_at hF rfl rfl rfl (x_move (hF.tmp 6 rfl)) ?_; clear hF; intro a hF
    refine l_at hF rfl rfl rfl (x_move (hF.tmp 1 rfl)) ?_; clear hF; intro a hF
    refine l_at hF rfl rfl rfl (x_nil (hF.tmp 30 rfl)) ?_; clear hF; intro a hF
    refine l_at hF rfl rfl rfl (x_faddr Try.underlying61 rfl ty59 (by decide) (hF.tmp 31 rfl) rfl) ?_; clear hF; intro a hF
    refine l_at hF rfl rfl rfl (x_load1 ty59 (hF.tmp 32 rfl) (blk_cell (hH.atro 1 rfl) 0 rfl)) ?_; clear hF; intro a hF
    refine l_at hF rfl rfl rfl (x_len_slice Try.underlying59 (hF.tmp 33 rfl)) ?_; clear hF; intro a hF
    refine l_at hF rfl rfl rfl (x_lss (hF.tmp 29 rfl) (hF.tmp 34 rfl)) ?_; clear hF; intro a hF
    refine wpList_nil ?_
    refine hK8 _ _ ?_
    refine wp_cond_split (hF.tmp 35 rfl) (fun hc35 => ?_) (fun hc35 => ?_)
    · try simp only [Bool.or_eq_true, Bool.and_eq_true, Bool.or_eq_false_iff, Bool.and_eq_false_iff, Bool.not_eq_true', Bool.not_eq_false', decide_eq_true_eq, decide_eq_false_iff_not, Bool.not_true, Bool.not_false] at hc35
      obtain ⟨fA1, fc1, hfr1, hf1_0, hf1_1, hf1_2, hfw1⟩ := rd_sg ((hH.rd 2 rfl)) (gq_some (xs := S) (i := (j : Int)) (by omega) (by omega))
      have hH := hH.subrd 2 rfl 1001 hfr1 (fun _ h => h)
      have hH := hH.subcel 2 rfl 1500 hf1_0 (Rd.inok ((hH.rd 2 rfl)) (by omega) _)
      have hH := hH.subcel 2 rfl 1501 hf1_1 (Rd.inok ((hH.rd 2 rfl)) (by omega) _)
      have hH := hH.subcel 2 rfl 1502 hf1_2 (Rd.inok ((hH.rd 2 rfl)) (by omega) _)
      have hget : getM m (gq S (j : Int)).1 = (gq S (j : Int)).2 := (hM.get _).trans (get_gq hM.srt.keys (by omega))
      have hhas : hasM m (gq S (j : Int)).1 = true := (hM.has _).trans (by unfold hasM; rw [al_of_mem hM.srt.keys (x := (gq S (j : Int)).2) (by rw [← gq_at (by omega)]; exact List.getElem_mem _)]; rfl)
      refine wp_skip ?_
      refine hK7 _ _ ?_
      refine wp_seq_k fun khK9 hK9 => ?_
      refine wp_block ?_
      refine wp_seq_k fun khK10 hK10 => ?_
      refine wp_region_lit ?_
      refine l_at hF rfl rfl rfl (x_move (hF.tmp 0 rfl)) ?_; clear hF; intro a hF
      refine l_at hF rfl rfl rfl (x_move (hF.tmp 1 rfl)) ?_; clear hF; intro a hF
      refine l_at hF rfl rfl rfl (x_nil (hF.tmp 40 rfl)) ?_; clear hF; intro a hF
      refine l_at hF rfl rfl rfl (x_faddr Try.underlying61 rfl ty59 (by decide) (hF.tmp 41 rfl) rfl) ?_; clear hF; intro a hF
      refine l_at hF rfl rfl rfl (x_load1 ty59 (hF.tmp 42 rfl) (blk_cell (hH.atro 1 rfl) 0 rfl)) ?_; clear hF; intro a hF
      refine l_at hF rfl rfl rfl (x_move (hF.tmp 6 rfl)) ?_; clear hF; intro a hF
      refine l_at hF rfl rfl rfl (x_iaddr_A Try.underlying59 ty115 ((hH.rd 2 rfl)) (hF.tmp 43 rfl) (hF.tmp 44 rfl) (by omega) (by omega) _) ?_; clear hF; intro a hF
      refine l_at hF rfl rfl rfl (x_faddrA ((hH.rd 2 rfl)) (by omega) _ Try.underlying115 rfl ty3 (by decide) (hF.tmp 45 rfl) rfl) ?_; clear hF; intro a hF
      refine l_at hF rfl rfl rfl (x_load1 ty3 (hF.tmp 46 rfl) (hH.holds 1500 _ rfl)) ?_; clear hF; intro a hF
      refine wpList_plain rfl fun K hK => ?_
      refine w_call hF (x_enter Try.func23 (by kernel_rfl) rfl (by simp only [List.map_toArray, List.map_cons, List.map_nil, hF.tmp 39 rfl, hF.tmp 47 rfl] <;> rfl)) (read_calls _ hX (hok.same hH.mods) ((gq S (j : Int)).1) (fun i => by have := (hinv.get i).2.2; omega)) rfl rfl ?_
      rintro _ w ⟨vr48, rfl, hm_, hr_⟩; refine ⟨_, rfl, ?_⟩; clear hF; intro a hF; have hH := Hp.rowOut hH 48 hm_ hr_; obtain ⟨Ar48, cr48, rfl⟩ := (hH.row 48 rfl).form
      refine hK _ _ ?_; clear hK K
      rw [hget] at hF hH
      rw [at_of hhas] at hF
      refine l_at hF rfl rfl rfl (x_move (hF.tmp 48 rfl)) ?_; clear hF; intro a hF
      refine l_at hF rfl rfl rfl (x_extract (hF.tmp 38 rfl) rfl) ?_; clear hF; intro a hF
      refine l_at hF rfl rfl rfl (x_extract (hF.tmp 38 rfl) rfl) ?_; clear hF; intro a hF
      refine l_at hF rfl rfl rfl (x_assign (hF.tmp 49 rfl)) ?_; clear hF; intro a hF
      refine l_at hF rfl rfl rfl (x_assign (hF.tmp 50 rfl)) ?_; clear hF; intro a hF
      refine wpList_nil ?_
      refine hK10 _ _ ?_
      refine wp_seq_k fun khK11 hK11 => ?_
      refine r_start [(1, .ro (.blk br (.cells #[.slice As S.length cs, .slice Ar rt.length cr] 61 (0, 0)))), (2, .rd_ SgE As S cs oks), (48, .row (.int .u8) 5 (.slice Ar48 (gq S (j : Int)).2.1.length cr48) (gq S (j : Int)).2.1 (fun _ => False)), (1500, .cel (adr As ((j : Int).toNat * 3)) (.int .i64 (gq S (j : Int)).1)), (1501, .cel (adr As ((j : Int).toNat * 3 + 1)) (.slice fA1 (gq S (j : Int)).2.1.length fc1)), (1502, .cel (adr As ((j : Int).toNat * 3 + 2)) (.int .i64 (gq S (j : Int)).2.2)), (1001, .rd_ (.int .u8) (fA1) (gq S (j : Int)).2.1 fc1 oks)] (by kernel_rfl) hH fun hH => ?_
      have hS : SL [(1, .ro (.blk br (.cells #[.slice As S.length cs, .slice Ar rt.length cr] 61 (0, 0)))), (2, .rd_ SgE As S cs oks), (48, .row (.int .u8) 5 (.slice Ar48 (gq S (j : Int)).2.1.length cr48) (gq S (j : Int)).2.1 (fun _ => False)), (1500, .cel (adr As ((j : Int).toNat * 3)) (.int .i64 (gq S (j : Int)).1)), (1501, .cel (adr As ((j : Int).toNat * 3 + 1)) (.slice fA1 (gq S (j : Int)).2.1.length fc1)), (1502, .cel (adr As ((j : Int).toNat * 3 + 2)) (.int .i64 (gq S (j : Int)).2.2)), (1001, .rd_ (.int .u8) (fA1) (gq S (j : Int)).2.1 fc1 oks)] _ := SL.of hH (sub_cons (sub_cons (sub_cons (sub_cons (sub_cons (sub_cons (sub_cons (sub_nil _) 1001 rfl) 1502 rfl) 1501 rfl) 1500 rfl) 48 rfl) 2 rfl) 1 rfl)
      refine r_take 0 hF rfl rfl rfl (by kernel_rfl) (by kernel_rfl) (by kernel_rfl) (fun _ _ _ h => h) rfl hS (fun w hS => x_move (hF.tmp 8 rfl)) rfl ?_; clear hF; intro a hF
      refine r_take 1 hF rfl rfl rfl (by kernel_rfl) (by kernel_rfl) (by kernel_rfl) (fun _ _ _ h => h) rfl hS (fun w hS => x_neq (hF.tmp 51 rfl) rfl) rfl ?_; clear hF; intro a hF
      rw [show (!decide ((0 : Int) = 0)) = false from rfl] at hF
      refine r_take 2 hF rfl rfl rfl (by kernel_rfl) (by kernel_rfl) (by kernel_rfl) (fun _ _ _ h => h) rfl hS (fun w hS => x_move (hF.tmp 52 rfl)) rfl ?_; clear hF; intro a hF
      refine r_take 3 hF rfl rfl rfl (by kernel_rfl) (by kernel_rfl) (by kernel_rfl) (fun _ _ _ h => h) ((wanted_of hF rfl rfl rfl rfl).trans rfl) hS (fun w hS => x_move (hF.tmp 7 rfl)) rfl ?_; clear hF; intro a hF
      refine r_take 4 hF rfl rfl rfl (by kernel_rfl) (by kernel_rfl) (by kernel_rfl) (fun _ _ _ h => h) ((wanted_of hF rfl rfl rfl rfl).trans rfl) hS (fun w hS => x_b2s Try.underlying42 Try.underlying5 Try.underlying9 (Row.rd (ok' := fun k_ => (fun _ => False) k_ ∨ (.slice Ar48 (gq S (j : Int)).2.1.length cr48 : Value).ownBlock = some k_) (SL.row hS 48 rfl) (fun _ hk_ _ => .inl hk_) (fun _ hk_ => .inr hk_)) (hF.tmp 54 rfl)) rfl ?_; clear hF; intro a hF
      refine r_take 5 hF rfl rfl rfl (by kernel_rfl) (by kernel_rfl) (by kernel_rfl) (fun _ _ _ h => h) ((wanted_of hF rfl rfl rfl rfl).trans rfl) hS (fun w hS => x_move (hF.tmp 1 rfl)) rfl ?_; clear hF; intro a hF
      refine r_take 6 hF rfl rfl rfl (by kernel_rfl) (by kernel_rfl) (by kernel_rfl) (fun _ _ _ h => h) ((wanted_of hF rfl rfl rfl rfl).trans rfl) hS (fun w hS => x_nil (hF.tmp 56 rfl)) rfl ?_; clear hF; intro a hF
      refine r_take 7 hF rfl rfl rfl (by kernel_rfl) (by kernel_rfl) (by kernel_rfl) (fun _ _ _ h => h) ((wanted_of hF rfl rfl rfl rfl).trans rfl) hS (fun w hS => x_faddr Try.underlying61 rfl ty59 (by decide) (hF.tmp 57 rfl) rfl) rfl ?_; clear hF; intro a hF
      refine r_take 8 hF rfl rfl rfl (by kernel_rfl) (by kernel_rfl) (by kernel_rfl) (fun _ _ _ h => h) ((wanted_of hF rfl rfl rfl rfl).trans rfl) hS (fun w hS => x_load1 ty59 (hF.tmp 58 rfl) (blk_cell (SL.atro hS 1 rfl) 0 rfl)) rfl ?_; clear hF; intro a hF
      refine r_take 9 hF rfl rfl rfl (by kernel_rfl) (by kernel_rfl) (by kernel_rfl) (fun _ _ _ h => h) ((wanted_of hF rfl rfl rfl rfl).trans rfl) hS (fun w hS => x_move (hF.tmp 6 rfl)) rfl ?_; clear hF; intro a hF
      refine r_take 10 hF rfl rfl rfl (by kernel_rfl) (by kernel_rfl) (by kernel_rfl) (fun _ _ _ h => h) ((wanted_of hF rfl rfl rfl rfl).trans rfl) hS (fun w hS => x_iaddr_A Try.underlying59 ty115 ((hH.rd 2 rfl)) (hF.tmp 59 rfl) (hF.tmp 60 rfl) (by omega) (by omega) _) rfl ?_; clear hF; intro a hF
      refine r_take 11 hF rfl rfl rfl (by kernel_rfl) (by kernel_rfl) (by kernel_rfl) (fun _ _ _ h => h) ((wanted_of hF rfl rfl rfl rfl).trans rfl) hS (fun w hS => x_faddrA ((SL.rd hS 2 rfl)) (by omega) _ Try.underlying115 rfl ty42 (by decide) (hF.tmp 61 rfl) rfl) rfl ?_; clear hF; intro a hF
      refine r_take 12 hF rfl rfl rfl (by kernel_rfl) (by kernel_rfl) (by kernel_rfl) (fun _ _ _ h => h) ((wanted_of hF rfl rfl rfl rfl).trans rfl) hS (fun w hS => x_load1 ty42 (hF.tmp 62 rfl) (hS 1501 _ rfl)) rfl ?_; clear hF; intro a hF
      refine r_take 13 hF rfl rfl rfl (by kernel_rfl) (by kernel_rfl) (by kernel_rfl) (fun _ _ _ h => h) ((wanted_of hF rfl rfl rfl rfl).trans rfl) hS (fun w hS => x_b2s Try.underlying42 Try.underlying5 Try.underlying9 ((SL.rd hS 1001 rfl)) (hF.tmp 63 rfl)) rfl ?_; clear hF; intro a hF
      refine r_take 14 hF rfl rfl rfl (by kernel_rfl) (by kernel_rfl) (by kernel_rfl) (fun _ _ _ h => h) ((wanted_of hF rfl rfl rfl rfl).trans rfl) hS (fun w hS => x_nes (hF.tmp 55 rfl) (hF.tmp 64 rfl)) rfl ?_; clear hF; intro a hF
      rw [show ((!decide ((strOfNums ((gq S (j : Int)).2.1)) = (strOfNums ((gq S (j : Int)).2.1))))) = false by rw [decide_eq_true rfl]; rfl] at hF
      refine r_take 15 hF rfl rfl rfl (by kernel_rfl) (by kernel_rfl) (by kernel_rfl) (fun _ _ _ h => h) rfl hS (fun w hS => x_pickF (hF.tmp 53 rfl) rfl (hF.tmp 65 rfl)) rfl ?_; clear hF; intro a hF
      refine r_take 16 hF rfl rfl rfl (by kernel_rfl) (by kernel_rfl) (by kernel_rfl) (fun _ _ _ h => h) rfl hS (fun w hS => x_move (hF.tmp 66 rfl)) rfl ?_; clear hF; intro a hF
      refine r_take 17 hF rfl rfl rfl (by kernel_rfl) (by kernel_rfl) (by kernel_rfl) (fun _ _ _ h => h) ((wanted_of hF rfl rfl rfl rfl).trans rfl) hS (fun w hS => x_move (hF.tmp 0 rfl)) rfl ?_; clear hF; intro a hF
      refine r_take 18 hF rfl rfl rfl (by kernel_rfl) (by kernel_rfl) (by kernel_rfl) (fun _ _ _ h => h) ((wanted_of hF rfl rfl rfl rfl).trans rfl) hS (fun w hS => x_move (hF.tmp 1 rfl)) rfl ?_; clear hF; intro a hF
      refine r_take 19 hF rfl rfl rfl (by kernel_rfl) (by kernel_rfl) (by kernel_rfl) (fun _ _ _ h => h) ((wanted_of hF rfl rfl rfl rfl).trans rfl) hS (fun w hS => x_nil (hF.tmp 69 rfl)) rfl ?_; clear hF; intro a hF
      refine r_take 20 hF rfl rfl rfl (by kernel_rfl) (by kernel_rfl) (by kernel_rfl) (fun _ _ _ h => h) ((wanted_of hF rfl rfl rfl rfl).trans rfl) hS (fun w hS => x_faddr Try.underlying61 rfl ty59 (by decide) (hF.tmp 70 rfl) rfl) rfl ?_; clear hF; intro a hF
      refine r_take 21 hF rfl rfl rfl (by kernel_rfl) (by kernel_rfl) (by kernel_rfl) (fun _ _ _ h => h) ((wanted_of hF rfl rfl rfl rfl).trans rfl) hS (fun w hS => x_load1 ty59 (hF.tmp 71 rfl) (blk_cell (SL.atro hS 1 rfl) 0 rfl)) rfl ?_; clear hF; intro a hF
      refine r_take 22 hF rfl rfl rfl (by kernel_rfl) (by kernel_rfl) (by kernel_rfl) (fun _ _ _ h => h) ((wanted_of hF rfl rfl rfl rfl).trans rfl) hS (fun w hS => x_move (hF.tmp 6 rfl)) rfl ?_; clear hF; intro a hF
      refine r_take 23 hF rfl rfl rfl (by kernel_rfl) (by kernel_rfl) (by kernel_rfl) (fun _ _ _ h => h) ((wanted_of hF rfl rfl rfl rfl).trans rfl) hS (fun w hS => x_iaddr_A Try.underlying59 ty115 ((hH.rd 2 rfl)) (hF.tmp 72 rfl) (hF.tmp 73 rfl) (by omega) (by omega) _) rfl ?_; clear hF; intro a hF
      refine r_take 24 hF rfl rfl rfl (by kernel_rfl) (by kernel_rfl) (by kernel_rfl) (fun _ _ _ h => h) ((wanted_of hF rfl rfl rfl rfl).trans rfl) hS (fun w hS => x_faddrA ((SL.rd hS 2 rfl)) (by omega) _ Try.underlying115 rfl ty3 (by decide) (hF.tmp 74 rfl) rfl) rfl ?_; clear hF; intro a hF
      refine r_take 25 hF rfl rfl rfl (by kernel_rfl) (by kernel_rfl) (by kernel_rfl) (fun _ _ _ h => h) ((wanted_of hF rfl rfl rfl rfl).trans rfl) hS (fun w hS => x_load1 ty3 (hF.tmp 75 rfl) (hS 1500 _ rfl)) rfl ?_; clear hF; intro a hF
      refine r_take 27 hF rfl rfl rfl (by kernel_rfl) (by kernel_rfl) (by kernel_rfl) (fun _ _ _ h => h) ((wanted_of hF rfl rfl rfl rfl).trans rfl) hS (fun w hS => x_move (hF.tmp 1 rfl)) rfl ?_; clear hF; intro a hF
      refine r_take 28 hF rfl rfl rfl (by kernel_rfl) (by kernel_rfl) (by kernel_rfl) (fun _ _ _ h => h) ((wanted_of hF rfl rfl rfl rfl).trans rfl) hS (fun w hS => x_nil (hF.tmp 78 rfl)) rfl ?_; clear hF; intro a hF
      refine r_take 29 hF rfl rfl rfl (by kernel_rfl) (by kernel_rfl) (by kernel_rfl) (fun _ _ _ h => h) ((wanted_of hF rfl rfl rfl rfl).trans rfl) hS (fun w hS => x_faddr Try.underlying61 rfl ty59 (by decide) (hF.tmp 79 rfl) rfl) rfl ?_; clear hF; intro a hF
      refine r_take 30 hF rfl rfl rfl (by kernel_rfl) (by kernel_rfl) (by kernel_rfl) (fun _ _ _ h => h) ((wanted_of hF rfl rfl rfl rfl).trans rfl) hS (fun w hS => x_load1 ty59 (hF.tmp 80 rfl) (blk_cell (SL.atro hS 1 rfl) 0 rfl)) rfl ?_; clear hF; intro a hF
      refine r_take 31 hF rfl rfl rfl (by kernel_rfl) (by kernel_rfl) (by kernel_rfl) (fun _ _ _ h => h) ((wanted_of hF rfl rfl rfl rfl).trans rfl) hS (fun w hS => x_move (hF.tmp 6 rfl)) rfl ?_; clear hF; intro a hF
      refine r_take 32 hF rfl rfl rfl (by kernel_rfl) (by kernel_rfl) (by kernel_rfl) (fun _ _ _ h => h) ((wanted_of hF rfl rfl rfl rfl).trans rfl) hS (fun w hS => x_iaddr_A Try.underlying59 ty115 ((hH.rd 2 rfl)) (hF.tmp 81 rfl) (hF.tmp 82 rfl) (by omega) (by omega) _) rfl ?_; clear hF; intro a hF
      refine r_take 33 hF rfl rfl rfl (by kernel_rfl) (by kernel_rfl) (by kernel_rfl) (fun _ _ _ h => h) ((wanted_of hF rfl rfl rfl rfl).trans rfl) hS (fun w hS => x_faddrA ((SL.rd hS 2 rfl)) (by omega) _ Try.underlying115 rfl ty3 (by decide) (hF.tmp 83 rfl) rfl) rfl ?_; clear hF; intro a hF
      refine r_take 34 hF rfl rfl rfl (by kernel_rfl) (by kernel_rfl) (by kernel_rfl) (fun _ _ _ h => h) ((wanted_of hF rfl rfl rfl rfl).trans rfl) hS (fun w hS => x_load1 ty3 (hF.tmp 84 rfl) (hS 1502 _ rfl)) rfl ?_; clear hF; intro a hF
      refine r_do 26 rfl (by kernel_rfl) ((wanted_of hF rfl rfl rfl rfl).trans rfl) rfl ?_
      refine w_call hF (x_enter Try.func26 (by kernel_rfl) rfl (by simp only [List.map_toArray, List.map_cons, List.map_nil, hF.tmp 68 rfl, hF.tmp 76 rfl] <;> rfl)) (safe_calls _ hX (hok.same hH.mods) ((gq S (j : Int)).1)) rfl rfl ?_
      rintro _ w ⟨rfl, hm_⟩; refine ⟨_, rfl, ?_⟩; clear hF; intro a hF; have hH := hH.same hm_
      clear hS; have hS : SL _ _ := SL.of hH (sub_cons (sub_cons (sub_cons (sub_cons (sub_cons (sub_cons (sub_cons (sub_nil _) 1001 rfl) 1502 rfl) 1501 rfl) 1500 rfl) 48 rfl) 2 rfl) 1 rfl); refine ⟨hS, ?_⟩
      rw [hget] at hF
      refine r_take 35 hF rfl rfl rfl (by kernel_rfl) (by kernel_rfl) (by kernel_rfl) (fun _ _ _ h => h) ((wanted_of hF rfl rfl rfl rfl).trans rfl) hS (fun w hS => x_neq (hF.tmp 77 rfl) (hF.tmp 85 rfl)) rfl ?_; clear hF; intro a hF
      rw [show ((!decide (((gq S (j : Int)).2.2) = ((gq S (j : Int)).2.2)))) = false by rw [decide_eq_true rfl]; rfl] at hF
      refine r_take 36 hF rfl rfl rfl (by kernel_rfl) (by kernel_rfl) (by kernel_rfl) (fun _ _ _ h => h) rfl hS (fun w hS => x_pickF (hF.tmp 67 rfl) rfl (hF.tmp 86 rfl)) rfl ?_; clear hF; intro a hF
      refine r_end (by kernel_rfl) ?_; clear hS
      refine hK11 _ _ ?_
      refine wp_cond_false (hF.tmp 87 rfl) ?_
      refine wp_skip ?_
      refine hK9 _ _ ?_
      refine wp_region_lit ?_
      refine l_at hF rfl rfl rfl (x_move (hF.tmp 6 rfl)) ?_; clear hF; intro a hF
      refine l_at hF rfl rfl rfl (x_add (hF.tmp 36 rfl) rfl (w64 (by omega) (by omega))) ?_; clear hF; intro a hF
      refine l_at hF rfl rfl rfl (x_assign (hF.tmp 37 rfl)) ?_; clear hF; intro a hF
      refine wpList_nil ?_
      exact ⟨_, by omega, ⟨j + 1, rfl, by omega, (((hF.bare.add hF 6 rfl).add hF 1 rfl).add hF 0 rfl), hH.sub _ (sub_cons (sub_cons (sub_cons (sub_nil _) 3 rfl) 2 rfl) 1 rfl)⟩⟩
    · try simp only [Bool.or_eq_true, Bool.and_eq_true, Bool.or_eq_false_iff, Bool.and_eq_false_iff, Bool.not_eq_true', Bool.not_eq_false', decide_eq_true_eq, decide_eq_false_iff_not, Bool.not_true, Bool.not_false] at hc35
      refine wp_exit ?_
      refine hK5 _ _ ?_
      refine wp_seq_k fun khK12 hK12 => ?_
      refine wp_region_lit ?_
      refine l_at hF rfl rfl rfl (x_assign rfl) ?_; clear hF; intro a hF
      refine wpList_nil ?_
      refine hK12 _ _ ?_
      refine wp_ret ?_
      try simp only [Exit.then, Exit.inBlock]
      exact fin_ret hF (res1 hF rfl rfl) ⟨rfl, hH.mods⟩

set_option maxRecDepth 100000 in
set_option maxHeartbeats 1000000 in
theorem plays_calls (w0 : World) {ok : Nat → Prop} {As : Option Addr} {script : List ActD} {cs : Nat} (hrs : Rd ActE w0 ok As script cs) (hkp : ∀ x ∈ script, ∀ c ∈ x.2.2.2.2, -9223372036854775808 ≤ c ∧ c < 9223372036854775808) : Calls Try.prog 6 #[.slice As script.length cs] w0 fun e w' => e = .returned (.bool true) ∧ Mods (fun _ => False) w0 w' := by
  refine calls_of_wp Try.func6 rfl ?_
  have hF := Fr.enter #[.slice As script.length cs] 171 (slotsOf [.slice As script.length cs] 0) (Nat.le_of_ble_eq_true rfl) (fun i v h => by have h2 := (get_slotsOf _ 0 i v h).2; simpa only [List.getElem?_toArray, Nat.sub_zero] using h2)
  have hH := Hp.nil (fun _ => False) w0
  rw [Try.ntmps6]
  revert hF; generalize (⟨(#[.slice As script.length cs] : Array Value) ++ Array.replicate (171 - (#[.slice As script.length cs] : Array Value).size) undef, []⟩ : Act) = a; intro hF
  have hH := hH.arg 901 hrs.all (fun _ h => ⟨h, fun h => h⟩)
  have hles := hrs.le; unfold maxLen at hles
  refine wp_seq_k fun khK1 hK1 => ?_
  refine wp_region_lit ?_
  refine l_at hF rfl rfl rfl (x_assign rfl) ?_; clear hF; intro a hF
  refine wpList_nil ?_
  refine hK1 _ _ ?_
  refine wp_seq_k fun khK2 hK2 => ?_
  refine wp_region_lit ?_
  refine wpList_plain rfl fun K hK => ?_
  refine w_call hF (x_enter Try.func20 (by kernel_rfl) rfl (by simp only [List.map_toArray, List.map_cons, List.map_nil] <;> rfl)) (new_calls _) rfl rfl ?_
  rintro _ w ⟨bd1, X1, rfl, hD1, hok_, hm_, hn_, hr_⟩; refine ⟨_, rfl, ?_⟩; clear hF; intro a hF; have hH := hH.newX 70 hm_ hok_ hn_ (fun k h => (hr_ k h).elim)
  refine hK _ _ ?_; clear hK K
  refine l_at hF rfl rfl rfl (x_assign (hF.tmp 15 rfl)) ?_; clear hF; intro a hF
  refine wpList_nil ?_
  refine hK2 _ _ ?_
  refine wp_seq_k fun khK3 hK3 => ?_
  refine wp_region_lit ?_
  refine l_at hF rfl rfl rfl (x_buildS (cells := #[.slice none 0 0, .slice none 0 0]) (places := #[(0, 1), (1, 1)]) Try.underlying61 ty61 (by kernel_rfl) Array.map_empty rfl) ?_; clear hF; intro a hF
  refine wpList_plain rfl fun K hK => ?_
  refine w_box 1 hF hH rfl (hF.tmp 16 rfl) ?_
  clear hF hH; intro a w b17 hF hH
  refine hK _ _ ?_; clear hK K
  have hH := Hp.rdnil hH 2 SgE
  have hH := Hp.rdnil hH 3 (.int .u8)
  have hH := Hp.bundle hH 71 (L := [(1, .blk b17 (.cells #[.slice none 0 0, .slice none 0 0] 61 (0, 0))), (2, .rd_ SgE none [] 0 (fun _ => False)), (3, .rd_ (.int .u8) none [] 0 (fun _ => False))]) (H' := [(901, .rd_ ActE As script cs (fun k => k < w0.heap.size)), (70, X1)]) (sub_cons (sub_cons (sub_cons (sub_nil _) 3 rfl) 2 rfl) 1 rfl) (sub_cons (sub_cons (sub_nil _) 70 rfl) 901 rfl) (apart_cons rfl (apart_cons rfl (apart_cons rfl (apart_nil _)))) (apart_cons rfl (apart_cons rfl (apart_nil _)))
  generalize hY0 : Asn.all [(1, .blk b17 (.cells #[.slice none 0 0, .slice none 0 0] 61 (0, 0))), (2, .rd_ SgE none [] 0 (fun _ => False)), (3, .rd_ (.int .u8) none [] 0 (fun _ => False))] = Y0 at hH
  refine l_at hF rfl rfl rfl (x_assign (hF.tmp 17 rfl)) ?_; clear hF; intro a hF
  refine wpList_nil ?_
  refine hK3 _ _ ?_
  refine wp_seq_k fun khK4 hK4 => ?_
  refine wp_seq_k fun khK5 hK5 => ?_
  refine wp_region_lit ?_
  refine l_at hF rfl rfl rfl (x_assign rfl) ?_; clear hF; intro a hF
  refine wpList_nil ?_
  refine hK5 _ _ ?_
  refine wp_block ?_
  refine wp_loop_ghost (fun n_ a w => ∃ k : Nat, ∃ X_ : Asn, ∃ Y_ : Asn, ∃ bd_ : Nat, ∃ br_ : Nat, ∃ m : DM, ∃ S : DM, ∃ rt : List Int, n_ = script.length - k ∧ (k ≤ script.length) ∧ (DiskA 106 bd_ m rt X_) ∧ (RefA 61 br_ S rt Y_) ∧ (DInv m) ∧ (Mt m S) ∧ (rt.length ≤ 1024) ∧ Fr 171 a [(0, .slice As script.length cs), (3, .pointer (some ⟨bd_, 0, none⟩)), (4, .pointer (some ⟨br_, 0, none⟩)), (5, .int .i64 (k : Int))] ∧ Hp (fun _ => False) w0 w [(901, .rd_ ActE As script cs (fun k => k < w0.heap.size)), (70, X_), (71, Y_)]) (script.length) ?_ ?_
  · exact ⟨0, X1, Y0, bd1, b17, [], [], [], rfl, by omega, hD1, ⟨_, _, _, _, _, _, hY0.symm⟩, DInv.nil, Mt.nil, by simp, ((((hF.bare.add hF 5 rfl).add hF 4 rfl).add hF 3 rfl).add hF 0 rfl), hH.sub _ (sub_cons (sub_cons (sub_cons (sub_nil _) 71 rfl) 70 rfl) 901 rfl)⟩
  · rintro _ a w ⟨k, X_, Y_, bd_, br_, m, S, rt, rfl, hq0_0, hq0_1, hq0_2, hq0_3, hq0_4, hq0_5, hF, hH⟩
    refine wp_seq_k fun khK6 hK6 => ?_
    refine wp_seq_k fun khK7 hK7 => ?_
    refine wp_region_lit ?_
    refine l_at hF rfl rfl rfl (x_move (hF.tmp 5 rfl)) ?_; clear hF; intro a hF
    refine l_at hF rfl rfl rfl (x_move (hF.tmp 0 rfl)) ?_; clear hF; intro a hF
    refine l_at hF rfl rfl rfl (x_len_slice Try.underlying57 (hF.tmp 19 rfl)) ?_; clear hF; intro a hF
    refine l_at hF rfl rfl rfl (x_lss (hF.tmp 18 rfl) (hF.tmp 20 rfl)) ?_; clear hF; intro a hF
    refine l_at hF rfl rfl rfl (x_move (hF.tmp 21 rfl)) ?_; clear hF; intro a hF
    refine split_bool hF 22 rfl (fun hb22 => ?_) (fun hb22 => ?_)
    · have hc22 := hb22; try simp only [Bool.or_eq_true, Bool.and_eq_true, Bool.or_eq_false_iff, Bool.and_eq_false_iff, Bool.not_eq_true', Bool.not_eq_false', decide_eq_true_eq, decide_eq_false_iff_not, Bool.not_true, Bool.not_false] at hc22
      refine l_atg hF ((wanted_of hF rfl rfl rfl rfl).trans (by rw [hb22]; rfl)) rfl rfl (x_move (hF.tmp 5 rfl)) ?_; clear hF; intro a hF
      refine l_atg hF ((wanted_of hF rfl rfl rfl rfl).trans (by rw [hb22]; rfl)) rfl rfl (x_lss (hF.tmp 23 rfl) rfl) ?_; clear hF; intro a hF
      refine l_at hF rfl rfl rfl (x_pickT (hF.tmp 22 rfl) hb22 (hF.tmp 24 rfl)) ?_; clear hF; intro a hF
      refine wpList_nil ?_
      refine hK7 _ _ ?_
      refine wp_cond_split (hF.tmp 25 rfl) (fun hc25 => ?_) (fun hc25 => ?_)
      · try simp only [Bool.or_eq_true, Bool.and_eq_true, Bool.or_eq_false_iff, Bool.and_eq_false_iff, Bool.not_eq_true', Bool.not_eq_false', decide_eq_true_eq, decide_eq_false_iff_not, Bool.not_true, Bool.not_false] at hc25
        refine wp_skip ?_
        refine hK6 _ _ ?_
        refine wp_seq_k fun khK8 hK8 => ?_
        refine wp_block ?_
        refine wp_seq_k fun khK9 hK9 => ?_
        refine wp_region_lit ?_
        obtain ⟨fA1_0, fc1_0, fA1_1, fc1_1, hfr1_0, hfr1_1, hf1_0, hf1_1, hf1_2, hf1_3, hf1_4, hfw1⟩ := rd_act ((hH.rd 901 rfl)) (ga_some (xs := script) (i := (k : Int)) (by omega) (by omega))
        have hH := hH.subrd 901 rfl 1003 hfr1_0 (fun _ h => h)
        have hH := hH.subrd 901 rfl 1004 hfr1_1 (fun _ h => h)
        have hH := hH.subcel 901 rfl 1500 hf1_0 (Rd.inok ((hH.rd 901 rfl)) (by omega) _)
        have hH := hH.subcel 901 rfl 1501 hf1_1 (Rd.inok ((hH.rd 901 rfl)) (by omega) _)
        have hH := hH.subcel 901 rfl 1502 hf1_2 (Rd.inok ((hH.rd 901 rfl)) (by omega) _)
        have hH := hH.subcel 901 rfl 1503 hf1_3 (Rd.inok ((hH.rd 901 rfl)) (by omega) _)
        have hH := hH.subcel 901 rfl 1504 hf1_4 (Rd.inok ((hH.rd 901 rfl)) (by omega) _)
        have hkpk := hkp _ (ga_mem (xs := script) (j := k) (by omega))
        refine l_at hF rfl rfl rfl (x_move (hF.tmp 0 rfl)) ?_; clear hF; intro a hF
        refine l_at hF rfl rfl rfl (x_move (hF.tmp 5 rfl)) ?_; clear hF; intro a hF
        refine l_at hF rfl rfl rfl (x_iaddr_A Try.underlying57 ty63 ((hH.rd 901 rfl)) (hF.tmp 28 rfl) (hF.tmp 29 rfl) (by omega) (by omega) _) ?_; clear hF; intro a hF
        refine l_at hF rfl rfl rfl (x_loadn ty63 (hF.tmp 30 rfl) rfl hfw1) ?_; clear hF; intro a hF
        refine wpList_plain rfl fun K hK => ?_
        refine w_alloc 6 hF hH rfl ty63 ?_
        clear hF hH; intro a w b6 hF hH
        refine hK _ _ ?_; clear hK K
        refine wpList_plain rfl fun K hK => ?_
        refine w_storeA 6 hH ty63 rfl (hF.tmp 6 rfl) (hF.tmp 31 rfl) rfl (by simp [Value.cells, Value.oneCell']) rfl ?_
        clear hH; intro w hH
        refine hK _ _ ?_; clear hK K
        refine wpList_nil ?_
        refine hK9 _ _ ?_
        refine wp_seq_k fun khK10 hK10 => ?_
        refine wp_seq_k fun khK11 hK11 => ?_
        refine wp_region_lit ?_
        refine l_at hF rfl rfl rfl (x_move (hF.tmp 3 rfl)) ?_; clear hF; intro a hF
        refine l_at hF rfl rfl rfl (x_ptrnil Try.underlying40 (hF.tmp 32 rfl) rfl) ?_; clear hF; intro a hF
        refine wpList_nil ?_
        refine hK11 _ _ ?_
        refine wp_cond_false (hF.tmp 33 rfl) ?_
        refine wp_skip ?_
        refine hK10 _ _ ?_
        refine wp_seq_k fun khK12 hK12 => ?_
        refine wp_seq_k fun khK13 hK13 => ?_
        refine wp_region_lit ?_
        refine l_at hF rfl rfl rfl (x_faddr Try.underlying63 rfl ty42 (by decide) (hF.tmp 6 rfl) rfl) ?_; clear hF; intro a hF
        refine l_at hF rfl rfl rfl (x_load1 ty42 (hF.tmp 34 rfl) (blk_cell (hH.at 6 rfl) 3 rfl)) ?_; clear hF; intro a hF
        refine l_at hF rfl rfl rfl (x_len_slice Try.underlying42 (hF.tmp 35 rfl)) ?_; clear hF; intro a hF
        refine l_at hF rfl rfl rfl (x_gtr (hF.tmp 36 rfl) rfl) ?_; clear hF; intro a hF
        refine wpList_nil ?_
        refine hK13 _ _ ?_
        refine wp_cond_split (hF.tmp 37 rfl) (fun hc37 => ?_) (fun hc37 => ?_)
        · try simp only [Bool.or_eq_true, Bool.and_eq_true, Bool.or_eq_false_iff, Bool.and_eq_false_iff, Bool.not_eq_true', Bool.not_eq_false', decide_eq_true_eq, decide_eq_false_iff_not, Bool.not_true, Bool.not_false] at hc37
          refine wp_exit ?_
          refine hK8 _ _ ?_
          refine wp_region_lit ?_
          refine l_at hF rfl rfl rfl (x_move (hF.tmp 5 rfl)) ?_; clear hF; intro a hF
          refine l_at hF rfl rfl rfl (x_add (hF.tmp 26 rfl) rfl (w64 (by omega) (by omega))) ?_; clear hF; intro a hF
          refine l_at hF rfl rfl rfl (x_assign (hF.tmp 27 rfl)) ?_; clear hF; intro a hF
          refine wpList_nil ?_
          exact ⟨_, by omega, ⟨k + 1, X_, Y_, bd_, br_, m, S, rt, rfl, by omega, hq0_1, hq0_2, hq0_3, hq0_4, hq0_5, ((((hF.bare.add hF 5 rfl).add hF 4 rfl).add hF 3 rfl).add hF 0 rfl), hH.sub _ (sub_cons (sub_cons (sub_cons (sub_nil _) 71 rfl) 70 rfl) 901 rfl)⟩⟩
        · try simp only [Bool.or_eq_true, Bool.and_eq_true, Bool.or_eq_false_iff, Bool.and_eq_false_iff, Bool.not_eq_true', Bool.not_eq_false', decide_eq_true_eq, decide_eq_false_iff_not, Bool.not_true, Bool.not_false] at hc37
          refine wp_skip ?_
          refine hK12 _ _ ?_
          refine wp_seq_k fun khK14 hK14 => ?_
          refine wp_region_lit ?_
          refine l_at hF rfl rfl rfl (x_assign rfl) ?_; clear hF; intro a hF
          refine wpList_nil ?_
          refine hK14 _ _ ?_
          refine wp_seq_k fun khK15 hK15 => ?_
          refine wp_region_lit ?_
          refine wpList_plain rfl fun K hK => ?_
          refine w_lit0 (.int .u8) 38 hF hH rfl Try.underlying42 ty5 ?_
          clear hF hH; intro a w b38 hF hH
          refine hK _ _ ?_; clear hK K
          refine l_at hF rfl rfl rfl (x_faddr Try.underlying63 rfl ty42 (by decide) (hF.tmp 6 rfl) rfl) ?_; clear hF; intro a hF
          refine l_at hF rfl rfl rfl (x_load1 ty42 (hF.tmp 39 rfl) (blk_cell (hH.at 6 rfl) 3 rfl)) ?_; clear hF; intro a hF
          refine wpList_plain rfl fun K hK => ?_
          refine w_append 38 1003 (xs := ([])) (ys := ((ga script (k : Int)).2.2.2.1)) hF hH rfl Try.underlying42 ty5 rfl rfl rfl rfl ((hH.rd 1003 rfl)) (by intro k_ hk_; exact .inr hk_) (hF.tmp 38 rfl) (hF.tmp 40 rfl) (by simp only [List.length_nil]; omega) (by simp only [List.length_nil, maxLen]; omega) (fun _ => False) (fun w' v' h => row_flat h _) (fun k_ hk_ => hk_.elim) ?_
          clear hF hH; intro a w v41 hF hH
          refine hK _ _ ?_; clear hK K
          rw [List.nil_append] at hH
          obtain ⟨A8, c8, rfl⟩ := (hH.row 38 rfl).form
          refine l_at hF rfl rfl rfl (x_assign (hF.tmp 41 rfl)) ?_; clear hF; intro a hF
          refine wpList_nil ?_
          refine hK15 _ _ ?_
          refine wp_seq_k fun khK16 hK16 => ?_
          refine wp_seq_k fun khK17 hK17 => ?_
          refine wp_region_lit ?_
          refine l_at hF rfl rfl rfl (x_faddr Try.underlying63 rfl ty3 (by decide) (hF.tmp 6 rfl) rfl) ?_; clear hF; intro a hF
          refine l_at hF rfl rfl rfl (x_load1 ty3 (hF.tmp 42 rfl) (blk_cell (hH.at 6 rfl) 0 rfl)) ?_; clear hF; intro a hF
          refine wpList_nil ?_
          refine hK17 _ _ ?_
          refine wp_block ?_
          refine wp_seq_k fun khK18 hK18 => ?_
          refine wp_region_lit ?_
          refine l_at hF rfl rfl rfl (x_eql (hF.tmp 43 rfl) rfl) ?_; clear hF; intro a hF
          refine l_at hF rfl rfl rfl (x_assign (hF.tmp 45 rfl)) ?_; clear hF; intro a hF
          refine wpList_nil ?_
          refine hK18 _ _ ?_
          refine wp_norm_k fun khK19 hK19 => ?_
          have hJ44 : ∀ a w, ∀ X2 : Asn, ∀ Y2 : Asn, ∀ bd2 : Nat, ∀ br2 : Nat, ∀ m2 : DM, ∀ S2 : DM, ∀ rt2 : List Int, (DiskA 106 bd2 m2 rt2 X2) → (RefA 61 br2 S2 rt2 Y2) → (DInv m2) → (Mt m2 S2) → (rt2.length ≤ 1024) → Fr 171 a [(0, .slice As script.length cs), (3, .pointer (some ⟨bd2, 0, none⟩)), (4, .pointer (some ⟨br2, 0, none⟩)), (5, .int .i64 (k : Int)), (7, .bool true), (8, .slice A8 (ga script (k : Int)).2.2.2.1.length c8)] → Hp (fun _ => False) w0 w [(901, .rd_ ActE As script cs (fun k => k < w0.heap.size)), (70, X2), (71, Y2), (1003, .rd_ (.int .u8) (fA1_0) (ga script (k : Int)).2.2.2.1 fc1_0 (fun k => k < w0.heap.size)), (1004, .rd_ (.int .i64) (fA1_1) (ga script (k : Int)).2.2.2.2 fc1_1 (fun k => k < w0.heap.size)), (1500, .cel (adr As ((k : Int).toNat * 5)) (.int .i64 (ga script (k : Int)).1)), (1501, .cel (adr As ((k : Int).toNat * 5 + 1)) (.int .i64 (ga script (k : Int)).2.1)), (1502, .cel (adr As ((k : Int).toNat * 5 + 2)) (.int .i64 (ga script (k : Int)).2.2.1)), (1503, .cel (adr As ((k : Int).toNat * 5 + 3)) (.slice fA1_0 (ga script (k : Int)).2.2.2.1.length fc1_0)), (1504, .cel (adr As ((k : Int).toNat * 5 + 4)) (.slice fA1_1 (ga script (k : Int)).2.2.2.2.length fc1_1)), (6, .blk b6 (.cells #[.int .i64 (ga script (k : Int)).1, .int .i64 (ga script (k : Int)).2.1, .int .i64 (ga script (k : Int)).2.2.1, .slice fA1_0 (ga script (k : Int)).2.2.2.1.length fc1_0, .slice fA1_1 (ga script (k : Int)).2.2.2.2.length fc1_1] 63 (0, 0))), (38, .row (.int .u8) 5 (.slice A8 (ga script (k : Int)).2.2.2.1.length c8) (ga script (k : Int)).2.2.2.1 (fun _ => False))] → khK19 a w := by
            intro a w X2 Y2 bd2 br2 m2 S2 rt2 hj44_0 hj44_1 hj44_2 hj44_3 hj44_4 hF hH
            refine hK19 a w ?_
            refine hK16 _ _ ?_
            refine wp_seq_k fun khK20 hK20 => ?_
            refine wp_seq_k fun khK21 hK21 => ?_
            refine wp_region_lit ?_
            refine l_at hF rfl rfl rfl (x_assign rfl) ?_; clear hF; intro a hF
            refine wpList_nil ?_
            refine hK21 _ _ ?_
            refine wp_block ?_
            refine wp_loop_ghost (fun n_ a w => ∃ j : Nat, ∃ ys : List Int, n_ = (ga script (k : Int)).2.2.2.1.length - j ∧ (j ≤ (ga script (k : Int)).2.2.2.1.length) ∧ (ys.length = (ga script (k : Int)).2.2.2.1.length) ∧ Fr 171 a [(0, .slice As script.length cs), (3, .pointer (some ⟨bd2, 0, none⟩)), (4, .pointer (some ⟨br2, 0, none⟩)), (5, .int .i64 (k : Int)), (7, .bool true), (8, .slice A8 ys.length c8), (13, .int .i64 (j : Int))] ∧ Hp (fun _ => False) w0 w [(901, .rd_ ActE As script cs (fun k => k < w0.heap.size)), (70, X2), (71, Y2), (1003, .rd_ (.int .u8) (fA1_0) (ga script (k : Int)).2.2.2.1 fc1_0 (fun k => k < w0.heap.size)), (1004, .rd_ (.int .i64) (fA1_1) (ga script (k : Int)).2.2.2.2 fc1_1 (fun k => k < w0.heap.size)), (1500, .cel (adr As ((k : Int).toNat * 5)) (.int .i64 (ga script (k : Int)).1)), (1501, .cel (adr As ((k : Int).toNat * 5 + 1)) (.int .i64 (ga script (k : Int)).2.1)), (1502, .cel (adr As ((k : Int).toNat * 5 + 2)) (.int .i64 (ga script (k : Int)).2.2.1)), (1503, .cel (adr As ((k : Int).toNat * 5 + 3)) (.slice fA1_0 (ga script (k : Int)).2.2.2.1.length fc1_0)), (1504, .cel (adr As ((k : Int).toNat * 5 + 4)) (.slice fA1_1 (ga script (k : Int)).2.2.2.2.length fc1_1)), (6, .blk b6 (.cells #[.int .i64 (ga script (k : Int)).1, .int .i64 (ga script (k : Int)).2.1, .int .i64 (ga script (k : Int)).2.2.1, .slice fA1_0 (ga script (k : Int)).2.2.2.1.length fc1_0, .slice fA1_1 (ga script (k : Int)).2.2.2.2.length fc1_1] 63 (0, 0))), (38, .row (.int .u8) 5 (.slice A8 ys.length c8) ys (fun _ => False))]) ((ga script (k : Int)).2.2.2.1.length) ?_ ?_
            · exact ⟨0, (ga script (k : Int)).2.2.2.1, rfl, by omega, rfl, (((((((hF.bare.add hF 13 rfl).add hF 8 rfl).add hF 7 rfl).add hF 5 rfl).add hF 4 rfl).add hF 3 rfl).add hF 0 rfl), hH.sub _ (sub_cons (sub_cons (sub_cons (sub_cons (sub_cons (sub_cons (sub_cons (sub_cons (sub_cons (sub_cons (sub_cons (sub_cons (sub_nil _) 38 rfl) 6 rfl) 1504 rfl) 1503 rfl) 1502 rfl) 1501 rfl) 1500 rfl) 1004 rfl) 1003 rfl) 71 rfl) 70 rfl) 901 rfl)⟩
            · rintro _ a w ⟨j, ys, rfl, hq3_0, hq3_1, hF, hH⟩
              refine wp_seq_k fun khK22 hK22 => ?_
              refine wp_seq_k fun khK23 hK23 => ?_
              refine wp_region_lit ?_
              refine l_at hF rfl rfl rfl (x_move (hF.tmp 13 rfl)) ?_; clear hF; intro a hF
              refine l_at hF rfl rfl rfl (x_move (hF.tmp 8 rfl)) ?_; clear hF; intro a hF
              refine l_at hF rfl rfl rfl (x_len_slice Try.underlying42 (hF.tmp 146 rfl)) ?_; clear hF; intro a hF
              refine l_at hF rfl rfl rfl (x_lss (hF.tmp 145 rfl) (hF.tmp 147 rfl)) ?_; clear hF; intro a hF
              refine wpList_nil ?_
              refine hK23 _ _ ?_
              refine wp_cond_split (hF.tmp 148 rfl) (fun hc148 => ?_) (fun hc148 => ?_)
              · try simp only [Bool.or_eq_true, Bool.and_eq_true, Bool.or_eq_false_iff, Bool.and_eq_false_iff, Bool.not_eq_true', Bool.not_eq_false', decide_eq_true_eq, decide_eq_false_iff_not, Bool.not_true, Bool.not_false] at hc148
                refine wp_skip ?_
                refine hK22 _ _ ?_
                refine wp_seq_k fun khK24 hK24 => ?_
                refine wp_block ?_
                refine wp_region_lit ?_
                refine l_at hF rfl rfl rfl (x_move (hF.tmp 8 rfl)) ?_; clear hF; intro a hF
                refine l_at hF rfl rfl rfl (x_move (hF.tmp 13 rfl)) ?_; clear hF; intro a hF
                refine l_at hF rfl rfl rfl (x_move (hF.tmp 8 rfl)) ?_; clear hF; intro a hF
                refine l_at hF rfl rfl rfl (x_move (hF.tmp 13 rfl)) ?_; clear hF; intro a hF
                refine l_at hF rfl rfl rfl (x_iaddr_A Try.underlying42 ty5 (Row.rd (ok' := fun k_ => (fun _ => False) k_ ∨ (.slice A8 ys.length c8 : Value).ownBlock = some k_) (hH.row 38 rfl) (fun _ hk_ _ => .inl hk_) (fun _ hk_ => .inr hk_)) (hF.tmp 153 rfl) (hF.tmp 154 rfl) (by omega) (by omega) _) ?_; clear hF; intro a hF
                refine l_at hF rfl rfl rfl (x_load1 ty5 (hF.tmp 155 rfl) ((Row.rd (ok' := fun k_ => (fun _ => False) k_ ∨ (.slice A8 ys.length c8 : Value).ownBlock = some k_) (hH.row 38 rfl) (fun _ hk_ _ => .inl hk_) (fun _ hk_ => .inr hk_)).cellA (gi_some (i := (j : Int)) (by omega) (by omega)))) ?_; clear hF; intro a hF
                refine l_at hF rfl rfl rfl (x_bits (by simp) (hF.tmp 156 rfl) rfl rfl) ?_; clear hF; intro a hF
                refine l_at hF rfl rfl rfl (x_iaddr_A Try.underlying42 ty5 (Row.rd (ok' := fun k_ => (fun _ => False) k_ ∨ (.slice A8 ys.length c8 : Value).ownBlock = some k_) (hH.row 38 rfl) (fun _ hk_ _ => .inl hk_) (fun _ hk_ => .inr hk_)) (hF.tmp 151 rfl) (hF.tmp 152 rfl) (by omega) (by omega) _) ?_; clear hF; intro a hF
                refine wpList_plain rfl fun K hK => ?_
                refine w_storeEl 38 j 0 (x0 := gi ys (j : Int)) (bits .xor .u8 (gi ys (j : Int)) 255) (fun _ => False) hH ty5 rfl (gi_some (i := (j : Int)) (by omega) (by omega)) (hF.tmp 158 rfl) (hF.tmp 157 rfl) rfl (by simp [Value.cells, Value.oneCell']) (by decide) (fun cs hcs => by have h : cs = [.int .u8 (gi ys (j : Int))] := hcs; subst h; rfl) (fun _ h => h) (fun _ h => .inl h) ?_
                clear hH; intro w hH
                refine hK _ _ ?_; clear hK K
                refine wpList_nil ?_
                refine hK24 _ _ ?_
                refine wp_region_lit ?_
                refine l_at hF rfl rfl rfl (x_move (hF.tmp 13 rfl)) ?_; clear hF; intro a hF
                refine l_at hF rfl rfl rfl (x_add (hF.tmp 149 rfl) rfl (w64 (by omega) (by omega))) ?_; clear hF; intro a hF
                refine l_at hF rfl rfl rfl (x_assign (hF.tmp 150 rfl)) ?_; clear hF; intro a hF
                refine wpList_nil ?_
                have hFs : Fr 171 a [(0, .slice As script.length cs), (3, .pointer (some ⟨bd2, 0, none⟩)), (4, .pointer (some ⟨br2, 0, none⟩)), (5, .int .i64 (k : Int)), (7, .bool true), (8, .slice A8 ys.length c8), (13, .int .i64 ((j : Int) + 1))] := (((((((hF.bare.add hF 13 rfl).add hF 8 rfl).add hF 7 rfl).add hF 5 rfl).add hF 4 rfl).add hF 3 rfl).add hF 0 rfl)
                rw [show ys.length = (ys.set j (bits .xor .u8 (gi ys (j : Int)) 255)).length from (List.length_set ..).symm] at hFs
                have hHs : Hp (fun _ => False) w0 w [(901, .rd_ ActE As script cs (fun k => k < w0.heap.size)), (70, X2), (71, Y2), (1003, .rd_ (.int .u8) (fA1_0) (ga script (k : Int)).2.2.2.1 fc1_0 (fun k => k < w0.heap.size)), (1004, .rd_ (.int .i64) (fA1_1) (ga script (k : Int)).2.2.2.2 fc1_1 (fun k => k < w0.heap.size)), (1500, .cel (adr As ((k : Int).toNat * 5)) (.int .i64 (ga script (k : Int)).1)), (1501, .cel (adr As ((k : Int).toNat * 5 + 1)) (.int .i64 (ga script (k : Int)).2.1)), (1502, .cel (adr As ((k : Int).toNat * 5 + 2)) (.int .i64 (ga script (k : Int)).2.2.1)), (1503, .cel (adr As ((k : Int).toNat * 5 + 3)) (.slice fA1_0 (ga script (k : Int)).2.2.2.1.length fc1_0)), (1504, .cel (adr As ((k : Int).toNat * 5 + 4)) (.slice fA1_1 (ga script (k : Int)).2.2.2.2.length fc1_1)), (6, .blk b6 (.cells #[.int .i64 (ga script (k : Int)).1, .int .i64 (ga script (k : Int)).2.1, .int .i64 (ga script (k : Int)).2.2.1, .slice fA1_0 (ga script (k : Int)).2.2.2.1.length fc1_0, .slice fA1_1 (ga script (k : Int)).2.2.2.2.length fc1_1] 63 (0, 0))), (38, .row (.int .u8) 5 (.slice A8 ys.length c8) (ys.set j (bits .xor .u8 (gi ys (j : Int)) 255)) (fun _ => False))] := hH.sub _ (sub_cons (sub_cons (sub_cons (sub_cons (sub_cons (sub_cons (sub_cons (sub_cons (sub_cons (sub_cons (sub_cons (sub_cons (sub_nil _) 38 rfl) 6 rfl) 1504 rfl) 1503 rfl) 1502 rfl) 1501 rfl) 1500 rfl) 1004 rfl) 1003 rfl) 71 rfl) 70 rfl) 901 rfl)
                rw [show ys.length = (ys.set j (bits .xor .u8 (gi ys (j : Int)) 255)).length from (List.length_set ..).symm] at hHs
                exact ⟨_, by omega, ⟨j + 1, (ys.set j (bits .xor .u8 (gi ys (j : Int)) 255)), rfl, by omega, by rw [List.length_set]; exact hq3_1, hFs, hHs⟩⟩
              · try simp only [Bool.or_eq_true, Bool.and_eq_true, Bool.or_eq_false_iff, Bool.and_eq_false_iff, Bool.not_eq_true', Bool.not_eq_false', decide_eq_true_eq, decide_eq_false_iff_not, Bool.not_true, Bool.not_false] at hc148
                refine wp_exit ?_
                refine hK20 _ _ ?_
                refine wp_seq_k fun khK25 hK25 => ?_
                refine wp_seq_k fun khK26 hK26 => ?_
                refine wp_region_lit ?_
                refine l_at hF rfl rfl rfl (x_move (hF.tmp 7 rfl)) ?_; clear hF; intro a hF
                refine l_at hF rfl rfl rfl (x_not (hF.tmp 159 rfl)) ?_; clear hF; intro a hF
                refine l_at hF rfl rfl rfl (x_move (hF.tmp 160 rfl)) ?_; clear hF; intro a hF
                refine l_atg hF ((wanted_of hF rfl rfl rfl rfl).trans rfl) rfl rfl (x_move (hF.tmp 3 rfl)) ?_; clear hF; intro a hF
                refine l_atg hF ((wanted_of hF rfl rfl rfl rfl).trans rfl) rfl rfl (x_ptrnil Try.underlying40 (hF.tmp 162 rfl) rfl) ?_; clear hF; intro a hF
                refine l_at hF rfl rfl rfl (x_pickF (hF.tmp 161 rfl) rfl (hF.tmp 163 rfl)) ?_; clear hF; intro a hF
                refine wpList_nil ?_
                refine hK26 _ _ ?_
                refine wp_cond_false (hF.tmp 164 rfl) ?_
                refine wp_skip ?_
                refine hK25 _ _ ?_
                refine wp_seq_k fun khK27 hK27 => ?_
                refine wp_region_lit ?_
                refine l_at hF rfl rfl rfl (x_move (hF.tmp 3 rfl)) ?_; clear hF; intro a hF
                refine l_at hF rfl rfl rfl (x_move (hF.tmp 4 rfl)) ?_; clear hF; intro a hF
                refine wpList_plain rfl fun K hK => ?_
                refine w_call hF (x_enter Try.func38 (by kernel_rfl) rfl (by simp only [List.map_toArray, List.map_cons, List.map_nil, hF.tmp 165 rfl, hF.tmp 166 rfl] <;> rfl)) (alike_calls _ hj44_0 (it_ok hH 70 rfl) hj44_1 (it_ok hH 71 rfl) hj44_3 hj44_2 (by omega)) rfl rfl ?_
                rintro _ w ⟨rfl, hm_⟩; refine ⟨_, rfl, ?_⟩; clear hF; intro a hF; have hH := hH.same hm_
                refine hK _ _ ?_; clear hK K
                refine l_at hF rfl rfl rfl (x_assign (hF.tmp 167 rfl)) ?_; clear hF; intro a hF
                refine wpList_nil ?_
                refine hK27 _ _ ?_
                refine wp_seq_k fun khK28 hK28 => ?_
                refine wp_region_lit ?_
                refine l_at hF rfl rfl rfl (x_move (hF.tmp 14 rfl)) ?_; clear hF; intro a hF
                refine l_at hF rfl rfl rfl (x_not (hF.tmp 168 rfl)) ?_; clear hF; intro a hF
                refine wpList_nil ?_
                refine hK28 _ _ ?_
                refine wp_cond_false (hF.tmp 169 rfl) ?_
                refine wp_skip ?_
                refine hK8 _ _ ?_
                refine wp_region_lit ?_
                refine l_at hF rfl rfl rfl (x_move (hF.tmp 5 rfl)) ?_; clear hF; intro a hF
                refine l_at hF rfl rfl rfl (x_add (hF.tmp 26 rfl) rfl (w64 (by omega) (by omega))) ?_; clear hF; intro a hF
                refine l_at hF rfl rfl rfl (x_assign (hF.tmp 27 rfl)) ?_; clear hF; intro a hF
                refine wpList_nil ?_
                exact ⟨_, by omega, ⟨k + 1, X2, Y2, bd2, br2, m2, S2, rt2, rfl, by omega, hj44_0, hj44_1, hj44_2, hj44_3, hj44_4, ((((hF.bare.add hF 5 rfl).add hF 4 rfl).add hF 3 rfl).add hF 0 rfl), hH.sub _ (sub_cons (sub_cons (sub_cons (sub_nil _) 71 rfl) 70 rfl) 901 rfl)⟩⟩
          refine wp_cond_split (hF.tmp 44 rfl) (fun hc44 => ?_) (fun hc44 => ?_)
          · try simp only [Bool.or_eq_true, Bool.and_eq_true, Bool.or_eq_false_iff, Bool.and_eq_false_iff, Bool.not_eq_true', Bool.not_eq_false', decide_eq_true_eq, decide_eq_false_iff_not, Bool.not_true, Bool.not_false] at hc44
            refine r_start [(6, .blk b6 (.cells #[.int .i64 (ga script (k : Int)).1, .int .i64 (ga script (k : Int)).2.1, .int .i64 (ga script (k : Int)).2.2.1, .slice fA1_0 (ga script (k : Int)).2.2.2.1.length fc1_0, .slice fA1_1 (ga script (k : Int)).2.2.2.2.length fc1_1] 63 (0, 0)))] (by kernel_rfl) hH fun hH => ?_
            have hS : SL [(6, .blk b6 (.cells #[.int .i64 (ga script (k : Int)).1, .int .i64 (ga script (k : Int)).2.1, .int .i64 (ga script (k : Int)).2.2.1, .slice fA1_0 (ga script (k : Int)).2.2.2.1.length fc1_0, .slice fA1_1 (ga script (k : Int)).2.2.2.2.length fc1_1] 63 (0, 0)))] _ := SL.of hH (sub_cons (sub_nil _) 6 rfl)
            refine r_take 0 hF rfl rfl rfl (by kernel_rfl) (by kernel_rfl) (by kernel_rfl) (fun _ _ _ h => h) rfl hS (fun w hS => x_move (hF.tmp 3 rfl)) rfl ?_; clear hF; intro a hF
            refine r_take 1 hF rfl rfl rfl (by kernel_rfl) (by kernel_rfl) (by kernel_rfl) (fun _ _ _ h => h) rfl hS (fun w hS => x_faddr Try.underlying63 rfl ty3 (by decide) (hF.tmp 6 rfl) rfl) rfl ?_; clear hF; intro a hF
            refine r_take 2 hF rfl rfl rfl (by kernel_rfl) (by kernel_rfl) (by kernel_rfl) (fun _ _ _ h => h) rfl hS (fun w hS => x_load1 ty3 (hF.tmp 47 rfl) (blk_cell (SL.at_ hS 6 rfl) 1 rfl)) rfl ?_; clear hF; intro a hF
            refine r_take 3 hF rfl rfl rfl (by kernel_rfl) (by kernel_rfl) (by kernel_rfl) (fun _ _ _ h => h) rfl hS (fun w hS => x_move (hF.tmp 8 rfl)) rfl ?_; clear hF; intro a hF
            refine r_take 5 hF rfl rfl rfl (by kernel_rfl) (by kernel_rfl) (by kernel_rfl) (fun _ _ _ h => h) rfl hS (fun w hS => x_move (hF.tmp 4 rfl)) rfl ?_; clear hF; intro a hF
            refine r_take 6 hF rfl rfl rfl (by kernel_rfl) (by kernel_rfl) (by kernel_rfl) (fun _ _ _ h => h) rfl hS (fun w hS => x_faddr Try.underlying63 rfl ty3 (by decide) (hF.tmp 6 rfl) rfl) rfl ?_; clear hF; intro a hF
            refine r_take 7 hF rfl rfl rfl (by kernel_rfl) (by kernel_rfl) (by kernel_rfl) (fun _ _ _ h => h) rfl hS (fun w hS => x_load1 ty3 (hF.tmp 52 rfl) (blk_cell (SL.at_ hS 6 rfl) 1 rfl)) rfl ?_; clear hF; intro a hF
            refine r_take 8 hF rfl rfl rfl (by kernel_rfl) (by kernel_rfl) (by kernel_rfl) (fun _ _ _ h => h) rfl hS (fun w hS => x_faddr Try.underlying63 rfl ty42 (by decide) (hF.tmp 6 rfl) rfl) rfl ?_; clear hF; intro a hF
            refine r_take 9 hF rfl rfl rfl (by kernel_rfl) (by kernel_rfl) (by kernel_rfl) (fun _ _ _ h => h) rfl hS (fun w hS => x_load1 ty42 (hF.tmp 54 rfl) (blk_cell (SL.at_ hS 6 rfl) 3 rfl)) rfl ?_; clear hF; intro a hF
            refine r_do 4 rfl (by kernel_rfl) rfl rfl ?_
            refine w_call hF (x_enter Try.func22 (by kernel_rfl) rfl (by simp only [List.map_toArray, List.map_cons, List.map_nil, hF.tmp 46 rfl, hF.tmp 48 rfl, hF.tmp 49 rfl] <;> rfl)) (app_calls _ hq0_1 (it_ok hH 70 rfl) ((ga script (k : Int)).2.1) (Row.rd (ok' := fun k_ => (fun _ => False) k_ ∨ (.slice A8 (ga script (k : Int)).2.2.2.1.length c8 : Value).ownBlock = some k_) (hH.row 38 rfl) (fun _ hk_ _ => .inl hk_) (fun _ hk_ => .inr hk_)) (fun k hk => hk.elim (fun h => hH.inb 38 _ rfl k (.inr h)) (fun h => hH.inb 38 _ rfl k (.inl h))) (fun k hk h => hk.elim (fun h2 => hH.sep 70 38 _ _ (by decide) rfl rfl k h (.inr h2)) (fun h2 => hH.sep 70 38 _ _ (by decide) rfl rfl k h (.inl h2)))) rfl rfl ?_
            rintro _ w ⟨X1_1, rfl, hD1_1, hG_⟩; refine ⟨_, rfl, ?_⟩; clear hF; intro a hF; have hH := hH.grew 70 rfl hG_ (fun k h => h.elim)
            clear hS; have hS : SL _ _ := SL.of hH (sub_cons (sub_nil _) 6 rfl); refine ⟨hS, ?_⟩
            refine r_do 10 rfl (by kernel_rfl) rfl rfl ?_
            refine w_call hF (x_enter Try.func31 (by kernel_rfl) rfl (by simp only [List.map_toArray, List.map_cons, List.map_nil, hF.tmp 51 rfl, hF.tmp 53 rfl, hF.tmp 55 rfl] <;> rfl)) (rapp_calls _ hq0_2 (it_ok hH 71 rfl) (hq0_4).srt (by have := (hq0_4).perm.length_eq; have := (hq0_3).few; omega) ((hq0_3).perm (hq0_4).perm) ((ga script (k : Int)).2.1) ((hH.rd 1003 rfl)) (fun k hk => hH.inb 1003 _ rfl k (.inr hk)) (fun k hk h => hH.sep 71 1003 _ _ (by decide) rfl rfl k h (.inr hk))) rfl rfl ?_
            rintro _ w ⟨X9_1, rfl, hD9_1, hG_⟩; refine ⟨_, rfl, ?_⟩; clear hF; intro a hF; have hH := hH.grew 71 rfl hG_ (fun k h => h.elim)
            clear hS; have hS : SL _ _ := SL.of hH (sub_cons (sub_nil _) 6 rfl); refine ⟨hS, ?_⟩
            refine r_take 11 hF rfl rfl rfl (by kernel_rfl) (by kernel_rfl) (by kernel_rfl) (fun _ _ _ h => h) rfl hS (fun w hS => x_eql (hF.tmp 50 rfl) (hF.tmp 56 rfl)) rfl ?_; clear hF; intro a hF
            rw [decide_eq_true (hq0_4.appE_ _ _)] at hF
            have hj_1 := hD1_1; have hj_2 := hD9_1; have hj_3 := hq0_3.app (ga script (k : Int)).2.1 (ga script (k : Int)).2.2.2.1; have hj_4 := hq0_4.app (ga script (k : Int)).2.1 (ga script (k : Int)).2.2.2.1; have hj_5 : (rt).length ≤ 1024 := hq0_5
            refine r_take 12 hF rfl rfl rfl (by kernel_rfl) (by kernel_rfl) (by kernel_rfl) (fun _ _ _ h => h) rfl hS (fun w hS => x_assign (hF.tmp 57 rfl)) rfl ?_; clear hF; intro a hF
            refine r_end (by kernel_rfl) ?_; clear hS
            exact hJ44 _ _ X1_1 X9_1 bd_ br_ (appM m ((ga script (k : Int)).2.1) ((ga script (k : Int)).2.2.2.1)) (appS S ((ga script (k : Int)).2.1) ((ga script (k : Int)).2.2.2.1)) rt hj_1 hj_2 hj_3 hj_4 hj_5 ((((((hF.bare.add hF 8 rfl).add hF 7 rfl).add hF 5 rfl).add hF 4 rfl).add hF 3 rfl).add hF 0 rfl) (hH.sub _ (sub_cons (sub_cons (sub_cons (sub_cons (sub_cons (sub_cons (sub_cons (sub_cons (sub_cons (sub_cons (sub_cons (sub_cons (sub_nil _) 38 rfl) 6 rfl) 1504 rfl) 1503 rfl) 1502 rfl) 1501 rfl) 1500 rfl) 1004 rfl) 1003 rfl) 71 rfl) 70 rfl) 901 rfl))
          · try simp only [Bool.or_eq_true, Bool.and_eq_true, Bool.or_eq_false_iff, Bool.and_eq_false_iff, Bool.not_eq_true', Bool.not_eq_false', decide_eq_true_eq, decide_eq_false_iff_not, Bool.not_true, Bool.not_false] at hc44
            refine wp_seq_k fun khK29 hK29 => ?_
            refine wp_region_lit ?_
            refine l_at hF rfl rfl rfl (x_eql (hF.tmp 43 rfl) rfl) ?_; clear hF; intro a hF
            refine l_at hF rfl rfl rfl (x_assign (hF.tmp 59 rfl)) ?_; clear hF; intro a hF
            refine wpList_nil ?_
            refine hK29 _ _ ?_
            refine wp_cond_split (hF.tmp 58 rfl) (fun hc58 => ?_) (fun hc58 => ?_)
            · try simp only [Bool.or_eq_true, Bool.and_eq_true, Bool.or_eq_false_iff, Bool.and_eq_false_iff, Bool.not_eq_true', Bool.not_eq_false', decide_eq_true_eq, decide_eq_false_iff_not, Bool.not_true, Bool.not_false] at hc58
              refine r_start [(6, .blk b6 (.cells #[.int .i64 (ga script (k : Int)).1, .int .i64 (ga script (k : Int)).2.1, .int .i64 (ga script (k : Int)).2.2.1, .slice fA1_0 (ga script (k : Int)).2.2.2.1.length fc1_0, .slice fA1_1 (ga script (k : Int)).2.2.2.2.length fc1_1] 63 (0, 0)))] (by kernel_rfl) hH fun hH => ?_
              have hS : SL [(6, .blk b6 (.cells #[.int .i64 (ga script (k : Int)).1, .int .i64 (ga script (k : Int)).2.1, .int .i64 (ga script (k : Int)).2.2.1, .slice fA1_0 (ga script (k : Int)).2.2.2.1.length fc1_0, .slice fA1_1 (ga script (k : Int)).2.2.2.2.length fc1_1] 63 (0, 0)))] _ := SL.of hH (sub_cons (sub_nil _) 6 rfl)
              refine r_take 0 hF rfl rfl rfl (by kernel_rfl) (by kernel_rfl) (by kernel_rfl) (fun _ _ _ h => h) rfl hS (fun w hS => x_move (hF.tmp 3 rfl)) rfl ?_; clear hF; intro a hF
              refine r_take 1 hF rfl rfl rfl (by kernel_rfl) (by kernel_rfl) (by kernel_rfl) (fun _ _ _ h => h) rfl hS (fun w hS => x_faddr Try.underlying63 rfl ty3 (by decide) (hF.tmp 6 rfl) rfl) rfl ?_; clear hF; intro a hF
              refine r_take 2 hF rfl rfl rfl (by kernel_rfl) (by kernel_rfl) (by kernel_rfl) (fun _ _ _ h => h) rfl hS (fun w hS => x_load1 ty3 (hF.tmp 61 rfl) (blk_cell (SL.at_ hS 6 rfl) 1 rfl)) rfl ?_; clear hF; intro a hF
              refine r_take 4 hF rfl rfl rfl (by kernel_rfl) (by kernel_rfl) (by kernel_rfl) (fun _ _ _ h => h) rfl hS (fun w hS => x_move (hF.tmp 4 rfl)) rfl ?_; clear hF; intro a hF
              refine r_take 5 hF rfl rfl rfl (by kernel_rfl) (by kernel_rfl) (by kernel_rfl) (fun _ _ _ h => h) rfl hS (fun w hS => x_faddr Try.underlying63 rfl ty3 (by decide) (hF.tmp 6 rfl) rfl) rfl ?_; clear hF; intro a hF
              refine r_take 6 hF rfl rfl rfl (by kernel_rfl) (by kernel_rfl) (by kernel_rfl) (fun _ _ _ h => h) rfl hS (fun w hS => x_load1 ty3 (hF.tmp 65 rfl) (blk_cell (SL.at_ hS 6 rfl) 1 rfl)) rfl ?_; clear hF; intro a hF
              refine r_do 3 rfl (by kernel_rfl) rfl rfl ?_
              refine w_call hF (x_enter Try.func27 (by kernel_rfl) rfl (by simp only [List.map_toArray, List.map_cons, List.map_nil, hF.tmp 60 rfl, hF.tmp 62 rfl] <;> rfl)) (sync_calls _ hq0_1 (it_ok hH 70 rfl) ((ga script (k : Int)).2.1)) rfl rfl ?_
              rintro _ w ⟨X1_1, rfl, hD1_1, hG_⟩; refine ⟨_, rfl, ?_⟩; clear hF; intro a hF; have hH := hH.grew 70 rfl hG_ (fun k h => h.elim)
              clear hS; have hS : SL _ _ := SL.of hH (sub_cons (sub_nil _) 6 rfl); refine ⟨hS, ?_⟩
              refine r_do 7 rfl (by kernel_rfl) rfl rfl ?_
              refine w_call hF (x_enter Try.func32 (by kernel_rfl) rfl (by simp only [List.map_toArray, List.map_cons, List.map_nil, hF.tmp 64 rfl, hF.tmp 66 rfl] <;> rfl)) (rsync_calls _ hq0_2 (it_ok hH 71 rfl) (hq0_4).srt (by have := (hq0_4).perm.length_eq; have := (hq0_3).few; omega) ((ga script (k : Int)).2.1)) rfl rfl ?_
              rintro _ w ⟨X9_1, rfl, hD9_1, hG_⟩; refine ⟨_, rfl, ?_⟩; clear hF; intro a hF; have hH := hH.grew 71 rfl hG_ (fun k h => h.elim)
              clear hS; have hS : SL _ _ := SL.of hH (sub_cons (sub_nil _) 6 rfl); refine ⟨hS, ?_⟩
              refine r_take 8 hF rfl rfl rfl (by kernel_rfl) (by kernel_rfl) (by kernel_rfl) (fun _ _ _ h => h) rfl hS (fun w hS => x_eql (hF.tmp 63 rfl) (hF.tmp 67 rfl)) rfl ?_; clear hF; intro a hF
              rw [decide_eq_true (hq0_4.at_ _)] at hF
              have hj_1 := hD1_1; have hj_2 := hD9_1; have hj_3 := hq0_3.sync (ga script (k : Int)).2.1; have hj_4 := hq0_4.sync (ga script (k : Int)).2.1; have hj_5 : (rt).length ≤ 1024 := hq0_5
              refine r_take 9 hF rfl rfl rfl (by kernel_rfl) (by kernel_rfl) (by kernel_rfl) (fun _ _ _ h => h) rfl hS (fun w hS => x_assign (hF.tmp 68 rfl)) rfl ?_; clear hF; intro a hF
              refine r_end (by kernel_rfl) ?_; clear hS
              exact hJ44 _ _ X1_1 X9_1 bd_ br_ (syncM m ((ga script (k : Int)).2.1)) (syncS S ((ga script (k : Int)).2.1)) rt hj_1 hj_2 hj_3 hj_4 hj_5 ((((((hF.bare.add hF 8 rfl).add hF 7 rfl).add hF 5 rfl).add hF 4 rfl).add hF 3 rfl).add hF 0 rfl) (hH.sub _ (sub_cons (sub_cons (sub_cons (sub_cons (sub_cons (sub_cons (sub_cons (sub_cons (sub_cons (sub_cons (sub_cons (sub_cons (sub_nil _) 38 rfl) 6 rfl) 1504 rfl) 1503 rfl) 1502 rfl) 1501 rfl) 1500 rfl) 1004 rfl) 1003 rfl) 71 rfl) 70 rfl) 901 rfl))
            · try simp only [Bool.or_eq_true, Bool.and_eq_true, Bool.or_eq_false_iff, Bool.and_eq_false_iff, Bool.not_eq_true', Bool.not_eq_false', decide_eq_true_eq, decide_eq_false_iff_not, Bool.not_true, Bool.not_false] at hc58
              refine wp_seq_k fun khK30 hK30 => ?_
              refine wp_region_lit ?_
              refine l_at hF rfl rfl rfl (x_eql (hF.tmp 43 rfl) rfl) ?_; clear hF; intro a hF
              refine l_at hF rfl rfl rfl (x_assign (hF.tmp 70 rfl)) ?_; clear hF; intro a hF
              refine wpList_nil ?_
              refine hK30 _ _ ?_
              refine wp_cond_split (hF.tmp 69 rfl) (fun hc69 => ?_) (fun hc69 => ?_)
              · try simp only [Bool.or_eq_true, Bool.and_eq_true, Bool.or_eq_false_iff, Bool.and_eq_false_iff, Bool.not_eq_true', Bool.not_eq_false', decide_eq_true_eq, decide_eq_false_iff_not, Bool.not_true, Bool.not_false] at hc69
                refine r_start [(6, .blk b6 (.cells #[.int .i64 (ga script (k : Int)).1, .int .i64 (ga script (k : Int)).2.1, .int .i64 (ga script (k : Int)).2.2.1, .slice fA1_0 (ga script (k : Int)).2.2.2.1.length fc1_0, .slice fA1_1 (ga script (k : Int)).2.2.2.2.length fc1_1] 63 (0, 0)))] (by kernel_rfl) hH fun hH => ?_
                have hS : SL [(6, .blk b6 (.cells #[.int .i64 (ga script (k : Int)).1, .int .i64 (ga script (k : Int)).2.1, .int .i64 (ga script (k : Int)).2.2.1, .slice fA1_0 (ga script (k : Int)).2.2.2.1.length fc1_0, .slice fA1_1 (ga script (k : Int)).2.2.2.2.length fc1_1] 63 (0, 0)))] _ := SL.of hH (sub_cons (sub_nil _) 6 rfl)
                refine r_take 0 hF rfl rfl rfl (by kernel_rfl) (by kernel_rfl) (by kernel_rfl) (fun _ _ _ h => h) rfl hS (fun w hS => x_move (hF.tmp 3 rfl)) rfl ?_; clear hF; intro a hF
                refine r_take 1 hF rfl rfl rfl (by kernel_rfl) (by kernel_rfl) (by kernel_rfl) (fun _ _ _ h => h) rfl hS (fun w hS => x_faddr Try.underlying63 rfl ty3 (by decide) (hF.tmp 6 rfl) rfl) rfl ?_; clear hF; intro a hF
                refine r_take 2 hF rfl rfl rfl (by kernel_rfl) (by kernel_rfl) (by kernel_rfl) (fun _ _ _ h => h) rfl hS (fun w hS => x_load1 ty3 (hF.tmp 72 rfl) (blk_cell (SL.at_ hS 6 rfl) 1 rfl)) rfl ?_; clear hF; intro a hF
                refine r_take 3 hF rfl rfl rfl (by kernel_rfl) (by kernel_rfl) (by kernel_rfl) (fun _ _ _ h => h) rfl hS (fun w hS => x_faddr Try.underlying63 rfl ty3 (by decide) (hF.tmp 6 rfl) rfl) rfl ?_; clear hF; intro a hF
                refine r_take 4 hF rfl rfl rfl (by kernel_rfl) (by kernel_rfl) (by kernel_rfl) (fun _ _ _ h => h) rfl hS (fun w hS => x_load1 ty3 (hF.tmp 74 rfl) (blk_cell (SL.at_ hS 6 rfl) 2 rfl)) rfl ?_; clear hF; intro a hF
                refine r_take 6 hF rfl rfl rfl (by kernel_rfl) (by kernel_rfl) (by kernel_rfl) (fun _ _ _ h => h) rfl hS (fun w hS => x_move (hF.tmp 4 rfl)) rfl ?_; clear hF; intro a hF
                refine r_take 7 hF rfl rfl rfl (by kernel_rfl) (by kernel_rfl) (by kernel_rfl) (fun _ _ _ h => h) rfl hS (fun w hS => x_faddr Try.underlying63 rfl ty3 (by decide) (hF.tmp 6 rfl) rfl) rfl ?_; clear hF; intro a hF
                refine r_take 8 hF rfl rfl rfl (by kernel_rfl) (by kernel_rfl) (by kernel_rfl) (fun _ _ _ h => h) rfl hS (fun w hS => x_load1 ty3 (hF.tmp 78 rfl) (blk_cell (SL.at_ hS 6 rfl) 1 rfl)) rfl ?_; clear hF; intro a hF
                refine r_take 9 hF rfl rfl rfl (by kernel_rfl) (by kernel_rfl) (by kernel_rfl) (fun _ _ _ h => h) rfl hS (fun w hS => x_faddr Try.underlying63 rfl ty3 (by decide) (hF.tmp 6 rfl) rfl) rfl ?_; clear hF; intro a hF
                refine r_take 10 hF rfl rfl rfl (by kernel_rfl) (by kernel_rfl) (by kernel_rfl) (fun _ _ _ h => h) rfl hS (fun w hS => x_load1 ty3 (hF.tmp 80 rfl) (blk_cell (SL.at_ hS 6 rfl) 2 rfl)) rfl ?_; clear hF; intro a hF
                refine r_do 5 rfl (by kernel_rfl) rfl rfl ?_
                refine w_call hF (x_enter Try.func25 (by kernel_rfl) rfl (by simp only [List.map_toArray, List.map_cons, List.map_nil, hF.tmp 71 rfl, hF.tmp 73 rfl, hF.tmp 75 rfl] <;> rfl)) (cut_calls _ hq0_1 (it_ok hH 70 rfl) ((ga script (k : Int)).2.1) ((ga script (k : Int)).2.2.1)) rfl rfl ?_
                rintro _ w ⟨X1_1, rfl, hD1_1, hG_⟩; refine ⟨_, rfl, ?_⟩; clear hF; intro a hF; have hH := hH.grew 70 rfl hG_ (fun k h => h.elim)
                clear hS; have hS : SL _ _ := SL.of hH (sub_cons (sub_nil _) 6 rfl); refine ⟨hS, ?_⟩
                refine r_do 11 rfl (by kernel_rfl) rfl rfl ?_
                refine w_call hF (x_enter Try.func33 (by kernel_rfl) rfl (by simp only [List.map_toArray, List.map_cons, List.map_nil, hF.tmp 77 rfl, hF.tmp 79 rfl, hF.tmp 81 rfl] <;> rfl)) (rcut_calls _ hq0_2 (it_ok hH 71 rfl) (hq0_4).srt (by have := (hq0_4).perm.length_eq; have := (hq0_3).few; omega) ((ga script (k : Int)).2.1) ((ga script (k : Int)).2.2.1)) rfl rfl ?_
                rintro _ w ⟨X9_1, rfl, hD9_1, hG_⟩; refine ⟨_, rfl, ?_⟩; clear hF; intro a hF; have hH := hH.grew 71 rfl hG_ (fun k h => h.elim)
                clear hS; have hS : SL _ _ := SL.of hH (sub_cons (sub_nil _) 6 rfl); refine ⟨hS, ?_⟩
                refine r_take 12 hF rfl rfl rfl (by kernel_rfl) (by kernel_rfl) (by kernel_rfl) (fun _ _ _ h => h) rfl hS (fun w hS => x_eql (hF.tmp 76 rfl) (hF.tmp 82 rfl)) rfl ?_; clear hF; intro a hF
                rw [decide_eq_true (hq0_4.cutE_ _ _)] at hF
                have hj_1 := hD1_1; have hj_2 := hD9_1; have hj_3 := hq0_3.cut (ga script (k : Int)).2.1 (ga script (k : Int)).2.2.1; have hj_4 := hq0_4.cut (ga script (k : Int)).2.1 (ga script (k : Int)).2.2.1; have hj_5 : (rt).length ≤ 1024 := hq0_5
                refine r_take 13 hF rfl rfl rfl (by kernel_rfl) (by kernel_rfl) (by kernel_rfl) (fun _ _ _ h => h) rfl hS (fun w hS => x_assign (hF.tmp 83 rfl)) rfl ?_; clear hF; intro a hF
                refine r_end (by kernel_rfl) ?_; clear hS
                exact hJ44 _ _ X1_1 X9_1 bd_ br_ (cutM m ((ga script (k : Int)).2.1) ((ga script (k : Int)).2.2.1)) (cutS S ((ga script (k : Int)).2.1) ((ga script (k : Int)).2.2.1)) rt hj_1 hj_2 hj_3 hj_4 hj_5 ((((((hF.bare.add hF 8 rfl).add hF 7 rfl).add hF 5 rfl).add hF 4 rfl).add hF 3 rfl).add hF 0 rfl) (hH.sub _ (sub_cons (sub_cons (sub_cons (sub_cons (sub_cons (sub_cons (sub_cons (sub_cons (sub_cons (sub_cons (sub_cons (sub_cons (sub_nil _) 38 rfl) 6 rfl) 1504 rfl) 1503 rfl) 1502 rfl) 1501 rfl) 1500 rfl) 1004 rfl) 1003 rfl) 71 rfl) 70 rfl) 901 rfl))
              · try simp only [Bool.or_eq_true, Bool.and_eq_true, Bool.or_eq_false_iff, Bool.and_eq_false_iff, Bool.not_eq_true', Bool.not_eq_false', decide_eq_true_eq, decide_eq_false_iff_not, Bool.not_true, Bool.not_false] at hc69
                refine wp_seq_k fun khK31 hK31 => ?_
                refine wp_region_lit ?_
                refine l_at hF rfl rfl rfl (x_eql (hF.tmp 43 rfl) rfl) ?_; clear hF; intro a hF
                refine l_at hF rfl rfl rfl (x_assign (hF.tmp 85 rfl)) ?_; clear hF; intro a hF
                refine wpList_nil ?_
                refine hK31 _ _ ?_
                refine wp_cond_split (hF.tmp 84 rfl) (fun hc84 => ?_) (fun hc84 => ?_)
                · try simp only [Bool.or_eq_true, Bool.and_eq_true, Bool.or_eq_false_iff, Bool.and_eq_false_iff, Bool.not_eq_true', Bool.not_eq_false', decide_eq_true_eq, decide_eq_false_iff_not, Bool.not_true, Bool.not_false] at hc84
                  refine r_start [(6, .blk b6 (.cells #[.int .i64 (ga script (k : Int)).1, .int .i64 (ga script (k : Int)).2.1, .int .i64 (ga script (k : Int)).2.2.1, .slice fA1_0 (ga script (k : Int)).2.2.2.1.length fc1_0, .slice fA1_1 (ga script (k : Int)).2.2.2.2.length fc1_1] 63 (0, 0)))] (by kernel_rfl) hH fun hH => ?_
                  have hS : SL [(6, .blk b6 (.cells #[.int .i64 (ga script (k : Int)).1, .int .i64 (ga script (k : Int)).2.1, .int .i64 (ga script (k : Int)).2.2.1, .slice fA1_0 (ga script (k : Int)).2.2.2.1.length fc1_0, .slice fA1_1 (ga script (k : Int)).2.2.2.2.length fc1_1] 63 (0, 0)))] _ := SL.of hH (sub_cons (sub_nil _) 6 rfl)
                  refine r_take 0 hF rfl rfl rfl (by kernel_rfl) (by kernel_rfl) (by kernel_rfl) (fun _ _ _ h => h) rfl hS (fun w hS => x_move (hF.tmp 3 rfl)) rfl ?_; clear hF; intro a hF
                  refine r_take 1 hF rfl rfl rfl (by kernel_rfl) (by kernel_rfl) (by kernel_rfl) (fun _ _ _ h => h) rfl hS (fun w hS => x_faddr Try.underlying63 rfl ty3 (by decide) (hF.tmp 6 rfl) rfl) rfl ?_; clear hF; intro a hF
                  refine r_take 2 hF rfl rfl rfl (by kernel_rfl) (by kernel_rfl) (by kernel_rfl) (fun _ _ _ h => h) rfl hS (fun w hS => x_load1 ty3 (hF.tmp 87 rfl) (blk_cell (SL.at_ hS 6 rfl) 1 rfl)) rfl ?_; clear hF; intro a hF
                  refine r_take 4 hF rfl rfl rfl (by kernel_rfl) (by kernel_rfl) (by kernel_rfl) (fun _ _ _ h => h) rfl hS (fun w hS => x_move (hF.tmp 4 rfl)) rfl ?_; clear hF; intro a hF
                  refine r_take 5 hF rfl rfl rfl (by kernel_rfl) (by kernel_rfl) (by kernel_rfl) (fun _ _ _ h => h) rfl hS (fun w hS => x_faddr Try.underlying63 rfl ty3 (by decide) (hF.tmp 6 rfl) rfl) rfl ?_; clear hF; intro a hF
                  refine r_take 6 hF rfl rfl rfl (by kernel_rfl) (by kernel_rfl) (by kernel_rfl) (fun _ _ _ h => h) rfl hS (fun w hS => x_load1 ty3 (hF.tmp 91 rfl) (blk_cell (SL.at_ hS 6 rfl) 1 rfl)) rfl ?_; clear hF; intro a hF
                  refine r_do 3 rfl (by kernel_rfl) rfl rfl ?_
                  refine w_call hF (x_enter Try.func34 (by kernel_rfl) rfl (by simp only [List.map_toArray, List.map_cons, List.map_nil, hF.tmp 86 rfl, hF.tmp 88 rfl] <;> rfl)) (rem_calls _ hq0_1 (it_ok hH 70 rfl) ((ga script (k : Int)).2.1)) rfl rfl ?_
                  rintro _ w ⟨X1_1, rfl, hD1_1, hG_⟩; refine ⟨_, rfl, ?_⟩; clear hF; intro a hF; have hH := hH.grew 70 rfl hG_ (fun k h => h.elim)
                  clear hS; have hS : SL _ _ := SL.of hH (sub_cons (sub_nil _) 6 rfl); refine ⟨hS, ?_⟩
                  refine r_do 7 rfl (by kernel_rfl) rfl rfl ?_
                  refine w_call hF (x_enter Try.func35 (by kernel_rfl) rfl (by simp only [List.map_toArray, List.map_cons, List.map_nil, hF.tmp 90 rfl, hF.tmp 92 rfl] <;> rfl)) (rrem_calls _ hq0_2 (it_ok hH 71 rfl) (hq0_4).srt (by have := (hq0_4).perm.length_eq; have := (hq0_3).few; omega) ((ga script (k : Int)).2.1)) rfl rfl ?_
                  rintro _ w ⟨X9_1, rfl, hD9_1, hG_⟩; refine ⟨_, rfl, ?_⟩; clear hF; intro a hF; have hH := hH.grew 71 rfl hG_ (fun k h => h.elim)
                  clear hS; have hS : SL _ _ := SL.of hH (sub_cons (sub_nil _) 6 rfl); refine ⟨hS, ?_⟩
                  refine r_take 8 hF rfl rfl rfl (by kernel_rfl) (by kernel_rfl) (by kernel_rfl) (fun _ _ _ h => h) rfl hS (fun w hS => x_eql (hF.tmp 89 rfl) (hF.tmp 93 rfl)) rfl ?_; clear hF; intro a hF
                  rw [decide_eq_true (hq0_4.at_ _)] at hF
                  have hj_1 := hD1_1; have hj_2 := hD9_1; have hj_3 := hq0_3.rem (ga script (k : Int)).2.1; have hj_4 := hq0_4.rem (ga script (k : Int)).2.1; have hj_5 : (rt).length ≤ 1024 := hq0_5
                  refine r_take 9 hF rfl rfl rfl (by kernel_rfl) (by kernel_rfl) (by kernel_rfl) (fun _ _ _ h => h) rfl hS (fun w hS => x_assign (hF.tmp 94 rfl)) rfl ?_; clear hF; intro a hF
                  refine r_end (by kernel_rfl) ?_; clear hS
                  exact hJ44 _ _ X1_1 X9_1 bd_ br_ (remM m ((ga script (k : Int)).2.1)) (remS S ((ga script (k : Int)).2.1)) rt hj_1 hj_2 hj_3 hj_4 hj_5 ((((((hF.bare.add hF 8 rfl).add hF 7 rfl).add hF 5 rfl).add hF 4 rfl).add hF 3 rfl).add hF 0 rfl) (hH.sub _ (sub_cons (sub_cons (sub_cons (sub_cons (sub_cons (sub_cons (sub_cons (sub_cons (sub_cons (sub_cons (sub_cons (sub_cons (sub_nil _) 38 rfl) 6 rfl) 1504 rfl) 1503 rfl) 1502 rfl) 1501 rfl) 1500 rfl) 1004 rfl) 1003 rfl) 71 rfl) 70 rfl) 901 rfl))
                · try simp only [Bool.or_eq_true, Bool.and_eq_true, Bool.or_eq_false_iff, Bool.and_eq_false_iff, Bool.not_eq_true', Bool.not_eq_false', decide_eq_true_eq, decide_eq_false_iff_not, Bool.not_true, Bool.not_false] at hc84
                  refine wp_seq_k fun khK32 hK32 => ?_
                  refine wp_region_lit ?_
                  refine l_at hF rfl rfl rfl (x_eql (hF.tmp 43 rfl) rfl) ?_; clear hF; intro a hF
                  refine l_at hF rfl rfl rfl (x_assign (hF.tmp 96 rfl)) ?_; clear hF; intro a hF
                  refine wpList_nil ?_
                  refine hK32 _ _ ?_
                  refine wp_cond_split (hF.tmp 95 rfl) (fun hc95 => ?_) (fun hc95 => ?_)
                  · try simp only [Bool.or_eq_true, Bool.and_eq_true, Bool.or_eq_false_iff, Bool.and_eq_false_iff, Bool.not_eq_true', Bool.not_eq_false', decide_eq_true_eq, decide_eq_false_iff_not, Bool.not_true, Bool.not_false] at hc95
                    refine wp_seq_k fun khK33 hK33 => ?_
                    refine wp_region_lit ?_
                    refine l_at hF rfl rfl rfl (x_move (hF.tmp 3 rfl)) ?_; clear hF; intro a hF
                    refine l_at hF rfl rfl rfl (x_faddr Try.underlying63 rfl ty3 (by decide) (hF.tmp 6 rfl) rfl) ?_; clear hF; intro a hF
                    refine l_at hF rfl rfl rfl (x_load1 ty3 (hF.tmp 99 rfl) (blk_cell (hH.at 6 rfl) 1 rfl)) ?_; clear hF; intro a hF
                    refine wpList_plain rfl fun K hK => ?_
                    refine w_call hF (x_enter Try.func23 (by kernel_rfl) rfl (by simp only [List.map_toArray, List.map_cons, List.map_nil, hF.tmp 98 rfl, hF.tmp 100 rfl] <;> rfl)) (read_calls _ hq0_1 (it_ok hH 70 rfl) ((ga script (k : Int)).2.1) (fun i => by have := (hq0_3.get i).2.2; omega)) rfl rfl ?_
                    rintro _ w ⟨vr101, rfl, hm_, hr_⟩; refine ⟨_, rfl, ?_⟩; clear hF; intro a hF; have hH := Hp.rowOut hH 101 hm_ hr_; obtain ⟨Ar101, cr101, rfl⟩ := (hH.row 101 rfl).form
                    refine hK _ _ ?_; clear hK K
                    refine l_at hF rfl rfl rfl (x_move (hF.tmp 101 rfl)) ?_; clear hF; intro a hF
                    refine l_at hF rfl rfl rfl (x_extract (hF.tmp 97 rfl) rfl) ?_; clear hF; intro a hF
                    refine l_at hF rfl rfl rfl (x_extract (hF.tmp 97 rfl) rfl) ?_; clear hF; intro a hF
                    refine l_at hF rfl rfl rfl (x_assign (hF.tmp 102 rfl)) ?_; clear hF; intro a hF
                    refine l_at hF rfl rfl rfl (x_assign (hF.tmp 103 rfl)) ?_; clear hF; intro a hF
                    refine wpList_nil ?_
                    refine hK33 _ _ ?_
                    refine wp_region_lit ?_
                    refine l_at hF rfl rfl rfl (x_move (hF.tmp 10 rfl)) ?_; clear hF; intro a hF
                    refine l_at hF rfl rfl rfl (x_eql (hF.tmp 104 rfl) rfl) ?_; clear hF; intro a hF
                    refine l_at hF rfl rfl rfl (x_move (hF.tmp 4 rfl)) ?_; clear hF; intro a hF
                    refine l_at hF rfl rfl rfl (x_faddr Try.underlying63 rfl ty3 (by decide) (hF.tmp 6 rfl) rfl) ?_; clear hF; intro a hF
                    refine l_at hF rfl rfl rfl (x_load1 ty3 (hF.tmp 107 rfl) (blk_cell (hH.at 6 rfl) 1 rfl)) ?_; clear hF; intro a hF
                    refine wpList_plain rfl fun K hK => ?_
                    refine w_call hF (x_enter Try.func36 (by kernel_rfl) rfl (by simp only [List.map_toArray, List.map_cons, List.map_nil, hF.tmp 106 rfl, hF.tmp 108 rfl] <;> rfl)) (rfind_calls _ hq0_2 (it_ok hH 71 rfl) ((ga script (k : Int)).2.1)) rfl rfl ?_
                    rintro _ w ⟨rfl, hm_⟩; refine ⟨_, rfl, ?_⟩; clear hF; intro a hF; have hH := hH.same hm_
                    refine hK _ _ ?_; clear hK K
                    refine l_at hF rfl rfl rfl (x_geq (hF.tmp 109 rfl) rfl) ?_; clear hF; intro a hF
                    refine l_at hF rfl rfl rfl (x_eqb (hF.tmp 105 rfl) (hF.tmp 110 rfl) Try.underlying4) ?_; clear hF; intro a hF
                    rw [hq0_4.read_eq] at hF
                    refine l_at hF rfl rfl rfl (x_move (hF.tmp 111 rfl)) ?_; clear hF; intro a hF
                    refine l_atg hF ((wanted_of hF rfl rfl rfl rfl).trans rfl) rfl rfl (x_move (hF.tmp 10 rfl)) ?_; clear hF; intro a hF
                    refine l_atg hF ((wanted_of hF rfl rfl rfl rfl).trans rfl) rfl rfl (x_eql (hF.tmp 113 rfl) rfl) ?_; clear hF; intro a hF
                    refine l_atg hF ((wanted_of hF rfl rfl rfl rfl).trans rfl) rfl rfl (x_move (hF.tmp 114 rfl)) ?_; clear hF; intro a hF
                    refine split_bool hF 115 rfl (fun hb115 => ?_) (fun hb115 => ?_)
                    · have hc115 := hb115; try simp only [Bool.or_eq_true, Bool.and_eq_true, Bool.or_eq_false_iff, Bool.and_eq_false_iff, Bool.not_eq_true', Bool.not_eq_false', decide_eq_true_eq, decide_eq_false_iff_not, Bool.not_true, Bool.not_false] at hc115
                      refine l_offg hF ((wanted_of hF rfl rfl rfl rfl).trans (by rw [hb115]; rfl)) rfl rfl ?_; clear hF; intro a hF
                      refine l_offg hF ((wanted_of hF rfl rfl rfl rfl).trans (by rw [hb115]; rfl)) rfl rfl ?_; clear hF; intro a hF
                      refine l_atg hF ((wanted_of hF rfl rfl rfl rfl).trans rfl) rfl rfl (x_pickT (hF.tmp 115 rfl) hb115 rfl) ?_; clear hF; intro a hF
                      refine l_at hF rfl rfl rfl (x_pickT (hF.tmp 112 rfl) rfl (hF.tmp 118 rfl)) ?_; clear hF; intro a hF
                      refine l_at hF rfl rfl rfl (x_assign (hF.tmp 119 rfl)) ?_; clear hF; intro a hF
                      have hj_1 := hq0_1; have hj_2 := hq0_2; have hj_3 := hq0_3; have hj_4 := hq0_4; have hj_5 : (rt).length ≤ 1024 := hq0_5
                      refine wpList_nil ?_
                      exact hJ44 _ _ X_ Y_ bd_ br_ m S rt hj_1 hj_2 hj_3 hj_4 hj_5 ((((((hF.bare.add hF 8 rfl).add hF 7 rfl).add hF 5 rfl).add hF 4 rfl).add hF 3 rfl).add hF 0 rfl) (hH.sub _ (sub_cons (sub_cons (sub_cons (sub_cons (sub_cons (sub_cons (sub_cons (sub_cons (sub_cons (sub_cons (sub_cons (sub_cons (sub_nil _) 38 rfl) 6 rfl) 1504 rfl) 1503 rfl) 1502 rfl) 1501 rfl) 1500 rfl) 1004 rfl) 1003 rfl) 71 rfl) 70 rfl) 901 rfl))
                    · have hc115 := hb115; try simp only [Bool.or_eq_true, Bool.and_eq_true, Bool.or_eq_false_iff, Bool.and_eq_false_iff, Bool.not_eq_true', Bool.not_eq_false', decide_eq_true_eq, decide_eq_false_iff_not, Bool.not_true, Bool.not_false] at hc115
                      refine l_atg hF ((wanted_of hF rfl rfl rfl rfl).trans (by rw [hb115]; rfl)) rfl rfl (x_move (hF.tmp 10 rfl)) ?_; clear hF; intro a hF
                      refine l_atg hF ((wanted_of hF rfl rfl rfl rfl).trans (by rw [hb115]; rfl)) rfl rfl (x_eql (hF.tmp 116 rfl) rfl) ?_; clear hF; intro a hF
                      rw [decide_eq_true (at_31 hc115)] at hF
                      refine l_atg hF ((wanted_of hF rfl rfl rfl rfl).trans rfl) rfl rfl (x_pickF (hF.tmp 115 rfl) hb115 (hF.tmp 117 rfl)) ?_; clear hF; intro a hF
                      refine l_at hF rfl rfl rfl (x_pickT (hF.tmp 112 rfl) rfl (hF.tmp 118 rfl)) ?_; clear hF; intro a hF
                      refine l_at hF rfl rfl rfl (x_assign (hF.tmp 119 rfl)) ?_; clear hF; intro a hF
                      have hj_1 := hq0_1; have hj_2 := hq0_2; have hj_3 := hq0_3; have hj_4 := hq0_4; have hj_5 : (rt).length ≤ 1024 := hq0_5
                      refine wpList_nil ?_
                      exact hJ44 _ _ X_ Y_ bd_ br_ m S rt hj_1 hj_2 hj_3 hj_4 hj_5 ((((((hF.bare.add hF 8 rfl).add hF 7 rfl).add hF 5 rfl).add hF 4 rfl).add hF 3 rfl).add hF 0 rfl) (hH.sub _ (sub_cons (sub_cons (sub_cons (sub_cons (sub_cons (sub_cons (sub_cons (sub_cons (sub_cons (sub_cons (sub_cons (sub_cons (sub_nil _) 38 rfl) 6 rfl) 1504 rfl) 1503 rfl) 1502 rfl) 1501 rfl) 1500 rfl) 1004 rfl) 1003 rfl) 71 rfl) 70 rfl) 901 rfl))
                  · try simp only [Bool.or_eq_true, Bool.and_eq_true, Bool.or_eq_false_iff, Bool.and_eq_false_iff, Bool.not_eq_true', Bool.not_eq_false', decide_eq_true_eq, decide_eq_false_iff_not, Bool.not_true, Bool.not_false] at hc95
                    refine wp_seq_k fun khK34 hK34 => ?_
                    refine wp_region_lit ?_
                    refine l_at hF rfl rfl rfl (x_eql (hF.tmp 43 rfl) rfl) ?_; clear hF; intro a hF
                    refine l_at hF rfl rfl rfl (x_assign (hF.tmp 121 rfl)) ?_; clear hF; intro a hF
                    refine wpList_nil ?_
                    refine hK34 _ _ ?_
                    refine wp_cond_split (hF.tmp 120 rfl) (fun hc120 => ?_) (fun hc120 => ?_)
                    · try simp only [Bool.or_eq_true, Bool.and_eq_true, Bool.or_eq_false_iff, Bool.and_eq_false_iff, Bool.not_eq_true', Bool.not_eq_false', decide_eq_true_eq, decide_eq_false_iff_not, Bool.not_true, Bool.not_false] at hc120
                      refine r_start [(6, .blk b6 (.cells #[.int .i64 (ga script (k : Int)).1, .int .i64 (ga script (k : Int)).2.1, .int .i64 (ga script (k : Int)).2.2.1, .slice fA1_0 (ga script (k : Int)).2.2.2.1.length fc1_0, .slice fA1_1 (ga script (k : Int)).2.2.2.2.length fc1_1] 63 (0, 0)))] (by kernel_rfl) hH fun hH => ?_
                      have hS : SL [(6, .blk b6 (.cells #[.int .i64 (ga script (k : Int)).1, .int .i64 (ga script (k : Int)).2.1, .int .i64 (ga script (k : Int)).2.2.1, .slice fA1_0 (ga script (k : Int)).2.2.2.1.length fc1_0, .slice fA1_1 (ga script (k : Int)).2.2.2.2.length fc1_1] 63 (0, 0)))] _ := SL.of hH (sub_cons (sub_nil _) 6 rfl)
                      refine r_take 0 hF rfl rfl rfl (by kernel_rfl) (by kernel_rfl) (by kernel_rfl) (fun _ _ _ h => h) rfl hS (fun w hS => x_move (hF.tmp 3 rfl)) rfl ?_; clear hF; intro a hF
                      refine r_take 1 hF rfl rfl rfl (by kernel_rfl) (by kernel_rfl) (by kernel_rfl) (fun _ _ _ h => h) rfl hS (fun w hS => x_move (hF.tmp 8 rfl)) rfl ?_; clear hF; intro a hF
                      refine r_take 3 hF rfl rfl rfl (by kernel_rfl) (by kernel_rfl) (by kernel_rfl) (fun _ _ _ h => h) rfl hS (fun w hS => x_move (hF.tmp 4 rfl)) rfl ?_; clear hF; intro a hF
                      refine r_take 4 hF rfl rfl rfl (by kernel_rfl) (by kernel_rfl) (by kernel_rfl) (fun _ _ _ h => h) rfl hS (fun w hS => x_faddr Try.underlying63 rfl ty42 (by decide) (hF.tmp 6 rfl) rfl) rfl ?_; clear hF; intro a hF
                      refine r_take 5 hF rfl rfl rfl (by kernel_rfl) (by kernel_rfl) (by kernel_rfl) (fun _ _ _ h => h) rfl hS (fun w hS => x_load1 ty42 (hF.tmp 126 rfl) (blk_cell (SL.at_ hS 6 rfl) 3 rfl)) rfl ?_; clear hF; intro a hF
                      refine r_do 2 rfl (by kernel_rfl) rfl rfl ?_
                      refine w_call hF (x_enter Try.func28 (by kernel_rfl) rfl (by simp only [List.map_toArray, List.map_cons, List.map_nil, hF.tmp 122 rfl, hF.tmp 123 rfl] <;> rfl)) (swap_calls _ hq0_1 (it_ok hH 70 rfl) (Row.rd (ok' := fun k_ => (fun _ => False) k_ ∨ (.slice A8 (ga script (k : Int)).2.2.2.1.length c8 : Value).ownBlock = some k_) (hH.row 38 rfl) (fun _ hk_ _ => .inl hk_) (fun _ hk_ => .inr hk_)) (fun k hk => hk.elim (fun h => hH.inb 38 _ rfl k (.inr h)) (fun h => hH.inb 38 _ rfl k (.inl h))) (fun k hk h => hk.elim (fun h2 => hH.sep 70 38 _ _ (by decide) rfl rfl k h (.inr h2)) (fun h2 => hH.sep 70 38 _ _ (by decide) rfl rfl k h (.inl h2)))) rfl rfl ?_
                      rintro _ w ⟨X1_1, rfl, hD1_1, hG_⟩; refine ⟨_, rfl, ?_⟩; clear hF; intro a hF; have hH := hH.grew 70 rfl hG_ (fun k h => h.elim)
                      clear hS; have hS : SL _ _ := SL.of hH (sub_cons (sub_nil _) 6 rfl); refine ⟨hS, ?_⟩
                      refine r_do 6 rfl (by kernel_rfl) rfl rfl ?_
                      refine w_call hF (x_enter Try.func37 (by kernel_rfl) rfl (by simp only [List.map_toArray, List.map_cons, List.map_nil, hF.tmp 125 rfl, hF.tmp 127 rfl] <;> rfl)) (rswap_calls _ hq0_2 (it_ok hH 71 rfl) ((hH.rd 1003 rfl)) (fun k hk => hH.inb 1003 _ rfl k (.inr hk)) (fun k hk h => hH.sep 71 1003 _ _ (by decide) rfl rfl k h (.inr hk))) rfl rfl ?_
                      rintro _ w ⟨X9_1, rfl, hD9_1, hG_⟩; refine ⟨_, rfl, ?_⟩; clear hF; intro a hF; have hH := hH.grew 71 rfl hG_ (fun k h => h.elim)
                      clear hS; have hS : SL _ _ := SL.of hH (sub_cons (sub_nil _) 6 rfl); refine ⟨hS, ?_⟩
                      refine r_take 7 hF rfl rfl rfl (by kernel_rfl) (by kernel_rfl) (by kernel_rfl) (fun _ _ _ h => h) rfl hS (fun w hS => x_eql (hF.tmp 124 rfl) (hF.tmp 128 rfl)) rfl ?_; clear hF; intro a hF
                      rw [decide_eq_true (rfl)] at hF
                      have hj_1 := hD1_1; have hj_2 := hD9_1; have hj_3 := hq0_3; have hj_4 := hq0_4; have hj_5 : ((swapR rt ((ga script (k : Int)).2.2.2.1))).length ≤ 1024 := swap_le hq0_5
                      refine r_take 8 hF rfl rfl rfl (by kernel_rfl) (by kernel_rfl) (by kernel_rfl) (fun _ _ _ h => h) rfl hS (fun w hS => x_assign (hF.tmp 129 rfl)) rfl ?_; clear hF; intro a hF
                      refine r_end (by kernel_rfl) ?_; clear hS
                      exact hJ44 _ _ X1_1 X9_1 bd_ br_ m S (swapR rt ((ga script (k : Int)).2.2.2.1)) hj_1 hj_2 hj_3 hj_4 hj_5 ((((((hF.bare.add hF 8 rfl).add hF 7 rfl).add hF 5 rfl).add hF 4 rfl).add hF 3 rfl).add hF 0 rfl) (hH.sub _ (sub_cons (sub_cons (sub_cons (sub_cons (sub_cons (sub_cons (sub_cons (sub_cons (sub_cons (sub_cons (sub_cons (sub_cons (sub_nil _) 38 rfl) 6 rfl) 1504 rfl) 1503 rfl) 1502 rfl) 1501 rfl) 1500 rfl) 1004 rfl) 1003 rfl) 71 rfl) 70 rfl) 901 rfl))
                    · try simp only [Bool.or_eq_true, Bool.and_eq_true, Bool.or_eq_false_iff, Bool.and_eq_false_iff, Bool.not_eq_true', Bool.not_eq_false', decide_eq_true_eq, decide_eq_false_iff_not, Bool.not_true, Bool.not_false] at hc120
                      refine wp_seq_k fun khK35 hK35 => ?_
                      refine wp_region_lit ?_
                      refine l_at hF rfl rfl rfl (x_eql (hF.tmp 43 rfl) rfl) ?_; clear hF; intro a hF
                      refine l_at hF rfl rfl rfl (x_assign (hF.tmp 131 rfl)) ?_; clear hF; intro a hF
                      refine wpList_nil ?_
                      refine hK35 _ _ ?_
                      refine wp_cond_split (hF.tmp 130 rfl) (fun hc130 => ?_) (fun hc130 => ?_)
                      · try simp only [Bool.or_eq_true, Bool.and_eq_true, Bool.or_eq_false_iff, Bool.and_eq_false_iff, Bool.not_eq_true', Bool.not_eq_false', decide_eq_true_eq, decide_eq_false_iff_not, Bool.not_true, Bool.not_false] at hc130
                        refine wp_seq_k fun khK36 hK36 => ?_
                        refine wp_region_lit ?_
                        refine l_at hF rfl rfl rfl (x_move (hF.tmp 3 rfl)) ?_; clear hF; intro a hF
                        refine l_at hF rfl rfl rfl (x_faddr Try.underlying63 rfl ty32 (by decide) (hF.tmp 6 rfl) rfl) ?_; clear hF; intro a hF
                        refine l_at hF rfl rfl rfl (x_load1 ty32 (hF.tmp 133 rfl) (blk_cell (hH.at 6 rfl) 4 rfl)) ?_; clear hF; intro a hF
                        refine wpList_plain rfl fun K hK => ?_
                        refine w_call hF (x_enter Try.func29 (by kernel_rfl) rfl (by simp only [List.map_toArray, List.map_cons, List.map_nil, hF.tmp 132 rfl, hF.tmp 134 rfl] <;> rfl)) (power_calls _ hq0_1 (it_ok hH 70 rfl) (by omega) hq0_3 ((hH.rd 1004 rfl)) hkpk) rfl rfl ?_
                        rintro _ w ⟨bd3, mo3, X3, rfl, hD3, hok_, hm_, hn_, hr_, hperm3⟩; refine ⟨_, rfl, ?_⟩; clear hF; intro a hF; have hH := hH.newX 80 hm_ hok_ hn_ hr_
                        refine hK _ _ ?_; clear hK K
                        refine l_at hF rfl rfl rfl (x_assign (hF.tmp 135 rfl)) ?_; clear hF; intro a hF
                        refine wpList_nil ?_
                        refine hK36 _ _ ?_
                        refine wp_seq_k fun khK37 hK37 => ?_
                        refine wp_region_lit ?_
                        refine l_at hF rfl rfl rfl (x_move (hF.tmp 3 rfl)) ?_; clear hF; intro a hF
                        refine l_at hF rfl rfl rfl (x_move (hF.tmp 4 rfl)) ?_; clear hF; intro a hF
                        refine wpList_plain rfl fun K hK => ?_
                        refine w_call hF (x_enter Try.func38 (by kernel_rfl) rfl (by simp only [List.map_toArray, List.map_cons, List.map_nil, hF.tmp 136 rfl, hF.tmp 137 rfl] <;> rfl)) (alike_calls _ hq0_1 (it_ok hH 70 rfl) hq0_2 (it_ok hH 71 rfl) hq0_4 hq0_3 (by omega)) rfl rfl ?_
                        rintro _ w ⟨rfl, hm_⟩; refine ⟨_, rfl, ?_⟩; clear hF; intro a hF; have hH := hH.same hm_
                        refine hK _ _ ?_; clear hK K
                        refine l_at hF rfl rfl rfl (x_assign (hF.tmp 138 rfl)) ?_; clear hF; intro a hF
                        refine wpList_nil ?_
                        refine hK37 _ _ ?_
                        refine wp_seq_k fun khK38 hK38 => ?_
                        refine wp_region_lit ?_
                        refine l_at hF rfl rfl rfl (x_move (hF.tmp 12 rfl)) ?_; clear hF; intro a hF
                        refine l_at hF rfl rfl rfl (x_assign (hF.tmp 139 rfl)) ?_; clear hF; intro a hF
                        refine wpList_nil ?_
                        refine hK38 _ _ ?_
                        refine wp_seq_k fun khK39 hK39 => ?_
                        refine wp_region_lit ?_
                        refine l_at hF rfl rfl rfl (x_move (hF.tmp 11 rfl)) ?_; clear hF; intro a hF
                        refine l_at hF rfl rfl rfl (x_assign (hF.tmp 140 rfl)) ?_; clear hF; intro a hF
                        refine wpList_nil ?_
                        refine hK39 _ _ ?_
                        refine wp_region_lit ?_
                        refine l_at hF rfl rfl rfl (x_move (hF.tmp 4 rfl)) ?_; clear hF; intro a hF
                        refine l_at hF rfl rfl rfl (x_faddr Try.underlying63 rfl ty32 (by decide) (hF.tmp 6 rfl) rfl) ?_; clear hF; intro a hF
                        refine l_at hF rfl rfl rfl (x_load1 ty32 (hF.tmp 142 rfl) (blk_cell (hH.at 6 rfl) 4 rfl)) ?_; clear hF; intro a hF
                        refine wpList_plain rfl fun K hK => ?_
                        refine w_call hF (x_enter Try.func39 (by kernel_rfl) rfl (by simp only [List.map_toArray, List.map_cons, List.map_nil, hF.tmp 141 rfl, hF.tmp 143 rfl] <;> rfl)) (rpower_calls _ hq0_2 (it_ok hH 71 rfl) (hq0_4).srt (by have := (hq0_4).perm.length_eq; have := (hq0_3).few; omega) ((hq0_3).perm (hq0_4).perm) (by omega) ((hH.rd 1004 rfl)) hkpk) rfl rfl ?_
                        rintro _ w ⟨bd8, X8, rfl, hD8, hok_, hm_, hn_, hr_⟩; refine ⟨_, rfl, ?_⟩; clear hF; intro a hF; have hH := hH.newX 81 hm_ hok_ hn_ hr_
                        refine hK _ _ ?_; clear hK K
                        refine l_at hF rfl rfl rfl (x_assign (hF.tmp 144 rfl)) ?_; clear hF; intro a hF
                        have hj_1 := hD3; have hj_2 := hD8; have hj_3 := pow_inv hq0_3 (ga script (k : Int)).2.2.2.2 hperm3; have hj_4 := hq0_4.pow hq0_3 (ga script (k : Int)).2.2.2.2 hperm3; have hj_5 := hq0_5
                        have hH := Hp.ren hH (H' := [(901, .rd_ ActE As script cs (fun k => k < w0.heap.size)), (1003, .rd_ (.int .u8) (fA1_0) (ga script (k : Int)).2.2.2.1 fc1_0 (fun k => k < w0.heap.size)), (1004, .rd_ (.int .i64) (fA1_1) (ga script (k : Int)).2.2.2.2 fc1_1 (fun k => k < w0.heap.size)), (1500, .cel (adr As ((k : Int).toNat * 5)) (.int .i64 (ga script (k : Int)).1)), (1501, .cel (adr As ((k : Int).toNat * 5 + 1)) (.int .i64 (ga script (k : Int)).2.1)), (1502, .cel (adr As ((k : Int).toNat * 5 + 2)) (.int .i64 (ga script (k : Int)).2.2.1)), (1503, .cel (adr As ((k : Int).toNat * 5 + 3)) (.slice fA1_0 (ga script (k : Int)).2.2.2.1.length fc1_0)), (1504, .cel (adr As ((k : Int).toNat * 5 + 4)) (.slice fA1_1 (ga script (k : Int)).2.2.2.2.length fc1_1)), (6, .blk b6 (.cells #[.int .i64 (ga script (k : Int)).1, .int .i64 (ga script (k : Int)).2.1, .int .i64 (ga script (k : Int)).2.2.1, .slice fA1_0 (ga script (k : Int)).2.2.2.1.length fc1_0, .slice fA1_1 (ga script (k : Int)).2.2.2.2.length fc1_1] 63 (0, 0))), (38, .row (.int .u8) 5 (.slice A8 (ga script (k : Int)).2.2.2.1.length c8) (ga script (k : Int)).2.2.2.1 (fun _ => False)), (70, X3), (71, X8)]) swp swp_inj (ren_cons rfl (ren_cons rfl (ren_cons rfl (ren_cons rfl (ren_cons rfl (ren_cons rfl (ren_cons rfl (ren_cons rfl (ren_cons rfl (ren_cons rfl (ren_cons rfl (ren_cons rfl (ren_nil _ _)))))))))))))
                        refine wpList_nil ?_
                        exact hJ44 _ _ X3 X8 bd3 bd8 mo3 (powS S (ga script (k : Int)).2.2.2.2 S.length) rt hj_1 hj_2 hj_3 hj_4 hj_5 ((((((hF.bare.add hF 8 rfl).add hF 7 rfl).add hF 5 rfl).add hF 4 rfl).add hF 3 rfl).add hF 0 rfl) (hH.sub _ (sub_cons (sub_cons (sub_cons (sub_cons (sub_cons (sub_cons (sub_cons (sub_cons (sub_cons (sub_cons (sub_cons (sub_cons (sub_nil _) 38 rfl) 6 rfl) 1504 rfl) 1503 rfl) 1502 rfl) 1501 rfl) 1500 rfl) 1004 rfl) 1003 rfl) 71 rfl) 70 rfl) 901 rfl))
                      · try simp only [Bool.or_eq_true, Bool.and_eq_true, Bool.or_eq_false_iff, Bool.and_eq_false_iff, Bool.not_eq_true', Bool.not_eq_false', decide_eq_true_eq, decide_eq_false_iff_not, Bool.not_true, Bool.not_false] at hc130
                        have hj_1 := hq0_1; have hj_2 := hq0_2; have hj_3 := hq0_3; have hj_4 := hq0_4; have hj_5 : (rt).length ≤ 1024 := hq0_5
                        refine wp_skip ?_
                        exact hJ44 _ _ X_ Y_ bd_ br_ m S rt hj_1 hj_2 hj_3 hj_4 hj_5 ((((((hF.bare.add hF 8 rfl).add hF 7 rfl).add hF 5 rfl).add hF 4 rfl).add hF 3 rfl).add hF 0 rfl) (hH.sub _ (sub_cons (sub_cons (sub_cons (sub_cons (sub_cons (sub_cons (sub_cons (sub_cons (sub_cons (sub_cons (sub_cons (sub_cons (sub_nil _) 38 rfl) 6 rfl) 1504 rfl) 1503 rfl) 1502 rfl) 1501 rfl) 1500 rfl) 1004 rfl) 1003 rfl) 71 rfl) 70 rfl) 901 rfl))
      · try simp only [Bool.or_eq_true, Bool.and_eq_true, Bool.or_eq_false_iff, Bool.and_eq_false_iff, Bool.not_eq_true', Bool.not_eq_false', decide_eq_true_eq, decide_eq_false_iff_not, Bool.not_true, Bool.not_false] at hc25
        refine wp_exit ?_
        refine hK4 _ _ ?_
        refine wp_seq_k fun khK40 hK40 => ?_
        refine wp_region_lit ?_
        refine wpList_plain rfl fun K hK => ?_
        refine w_call hF (x_enter Try.func21 (by kernel_rfl) rfl (by simp only [List.map_toArray, List.map_cons, List.map_nil] <;> rfl)) (alive_calls _) rfl rfl ?_
        rintro _ w ⟨rfl, hm_⟩; refine ⟨_, rfl, ?_⟩; clear hF; intro a hF; have hH := hH.same hm_
        refine hK _ _ ?_; clear hK K
        refine l_at hF rfl rfl rfl (x_assign (hF.tmp 170 rfl)) ?_; clear hF; intro a hF
        refine wpList_nil ?_
        refine hK40 _ _ ?_
        refine wp_ret ?_
        try simp only [Exit.then, Exit.inBlock]
        exact fin_ret hF (res1 hF rfl rfl) ⟨rfl, hH.mods⟩
    · have hc22 := hb22; try simp only [Bool.or_eq_true, Bool.and_eq_true, Bool.or_eq_false_iff, Bool.and_eq_false_iff, Bool.not_eq_true', Bool.not_eq_false', decide_eq_true_eq, decide_eq_false_iff_not, Bool.not_true, Bool.not_false] at hc22
      refine l_offg hF ((wanted_of hF rfl rfl rfl rfl).trans (by rw [hb22]; rfl)) rfl rfl ?_; clear hF; intro a hF
      refine l_offg hF ((wanted_of hF rfl rfl rfl rfl).trans (by rw [hb22]; rfl)) rfl rfl ?_; clear hF; intro a hF
      refine l_at hF rfl rfl rfl (x_pickF (hF.tmp 22 rfl) hb22 rfl) ?_; clear hF; intro a hF
      refine wpList_nil ?_
      refine hK7 _ _ ?_
      refine wp_cond_false (hF.tmp 25 rfl) ?_
      refine wp_exit ?_
      refine hK4 _ _ ?_
      refine wp_seq_k fun khK41 hK41 => ?_
      refine wp_region_lit ?_
      refine wpList_plain rfl fun K hK => ?_
      refine w_call hF (x_enter Try.func21 (by kernel_rfl) rfl (by simp only [List.map_toArray, List.map_cons, List.map_nil] <;> rfl)) (alive_calls _) rfl rfl ?_
      rintro _ w ⟨rfl, hm_⟩; refine ⟨_, rfl, ?_⟩; clear hF; intro a hF; have hH := hH.same hm_
      refine hK _ _ ?_; clear hK K
      refine l_at hF rfl rfl rfl (x_assign (hF.tmp 170 rfl)) ?_; clear hF; intro a hF
      refine wpList_nil ?_
      refine hK41 _ _ ?_
      refine wp_ret ?_
      try simp only [Exit.then, Exit.inBlock]
      exact fin_ret hF (res1 hF rfl rfl) ⟨rfl, hH.mods⟩

end Go.Proofs.Ytkocinnoncacgaa.Dsk
