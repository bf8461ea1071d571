/- The document's disk, walked. -/
import Derived.Test.YtkocinnoncacgaaDskJ
set_option linter.unusedVariables false
set_option linter.unusedSimpArgs false
namespace Go.Proofs.Ytkocinnoncacgaa.Dsk
open Go.RowKit Go.Proofs.Ytkocinnoncacgaa.Sx
set_option maxRecDepth 100000 in
set_option maxHeartbeats 1000000 in
theorem rswap_calls (w0 : World) {X : Asn} {bd : Nat} {S : DM} {rt : List Int} (hX : RefA 61 bd S rt X) (hok : X.ok w0) {okb : Nat → Prop} {Ab : Option Addr} {bs : List Int} {cb : Nat} (hrb : Rd (.int .u8) w0 okb Ab bs cb) (hbin : ∀ k, okb k → k < w0.heap.size) (hbs : ∀ k, okb k → ¬ X.own k) : Calls Try.prog 37 #[.pointer (some ⟨bd, 0, none⟩), .slice Ab bs.length cb] w0 fun e w' => ∃ X', e = .returned (.int .i64 (swapE bs)) ∧ RefA 61 bd S (swapR rt bs) X' ∧ Grew (fun _ => False) (fun _ => False) X w0 w' X' := by
  obtain ⟨As, cs, Ar, cr, oks, okr, rfl⟩ := hX
  refine calls_of_wp Try.func37 rfl ?_
  have hF := Fr.enter #[.pointer (some ⟨bd, 0, none⟩), .slice Ab bs.length cb] 14 (slotsOf [.pointer (some ⟨bd, 0, none⟩), .slice Ab bs.length cb] 0) (Nat.le_of_ble_eq_true rfl) (fun i v h => by have h2 := (get_slotsOf _ 0 i v h).2; simpa only [List.getElem?_toArray, Nat.sub_zero] using h2)
  rw [Try.ntmps37]
  revert hF; generalize (⟨(#[.pointer (some ⟨bd, 0, none⟩), .slice Ab bs.length cb] : Array Value) ++ Array.replicate (14 - (#[.pointer (some ⟨bd, 0, none⟩), .slice Ab bs.length cb] : Array Value).size) undef, []⟩ : Act) = a; intro hF
  have hH := Hp.ofAll hok.holds
  have hleS := (hH.rd 2 rfl).le; have hlert := (hH.rd 3 rfl).le; unfold maxLen at hleS hlert
  have hH := hH.readable 901 hrb hbin (fun i A_ hA k hk hk2 => hbs k hk2 ⟨i, A_, hA, hk⟩)
  have hlb := hrb.le; unfold maxLen at hlb
  refine wp_seq_k fun khK1 hK1 => ?_
  refine wp_region_lit ?_
  refine l_at hF rfl rfl rfl (x_assign rfl) ?_; clear hF; intro a hF
  refine wpList_nil ?_
  refine hK1 _ _ ?_
  refine wp_seq_k fun khK2 hK2 => ?_
  refine wp_seq_k fun khK3 hK3 => ?_
  refine wp_region_lit ?_
  refine l_at hF rfl rfl rfl (x_move (hF.tmp 1 rfl)) ?_; clear hF; intro a hF
  refine l_at hF rfl rfl rfl (x_len_slice Try.underlying42 (hF.tmp 5 rfl)) ?_; clear hF; intro a hF
  refine l_at hF rfl rfl rfl (x_gtr (hF.tmp 6 rfl) rfl) ?_; clear hF; intro a hF
  refine wpList_nil ?_
  refine hK3 _ _ ?_
  refine wp_cond_split (hF.tmp 7 rfl) (fun hc7 => ?_) (fun hc7 => ?_)
  · try simp only [Bool.or_eq_true, Bool.and_eq_true, Bool.or_eq_false_iff, Bool.and_eq_false_iff, Bool.not_eq_true', Bool.not_eq_false', decide_eq_true_eq, decide_eq_false_iff_not, Bool.not_true, Bool.not_false] at hc7
    have hno := swap_no (rt := rt) hc7
    refine wp_seq_k fun khK4 hK4 => ?_
    refine wp_region_lit ?_
    refine l_at hF rfl rfl rfl (x_assign rfl) ?_; clear hF; intro a hF
    refine wpList_nil ?_
    refine hK4 _ _ ?_
    refine wp_ret ?_
    try simp only [Exit.then, Exit.inBlock]
    have hE_ := hno.1
    have hM_ := hno.2
    refine fin_ret hF (res1 hF rfl rfl) ⟨Asn.all [(1, .blk bd (.cells #[.slice As S.length cs, .slice Ar rt.length cr] 61 (0, 0))), (2, .rd_ SgE As S cs oks), (3, .rd_ (.int .u8) Ar rt cr okr)], by rw [hE_] <;> rfl, by rw [hM_]; exact ⟨_, _, _, _, _, _, rfl⟩, grew_of (hH.sub [(1, .blk bd (.cells #[.slice As S.length cs, .slice Ar rt.length cr] 61 (0, 0))), (2, .rd_ SgE As S cs oks), (3, .rd_ (.int .u8) Ar rt cr okr)] (sub_cons (sub_cons (sub_cons (sub_nil _) 3 rfl) 2 rfl) 1 rfl)) (rdin_cons (fun k h => h.elim) (rdin_cons (fun k h => .inr (.inl ⟨2, _, rfl, h⟩)) (rdin_cons (fun k h => .inr (.inl ⟨3, _, rfl, h⟩)) rdin_nil)))⟩
  · try simp only [Bool.or_eq_true, Bool.and_eq_true, Bool.or_eq_false_iff, Bool.and_eq_false_iff, Bool.not_eq_true', Bool.not_eq_false', decide_eq_true_eq, decide_eq_false_iff_not, Bool.not_true, Bool.not_false] at hc7
    have hon := swap_yes (rt := rt) hc7
    refine wp_skip ?_
    refine hK2 _ _ ?_
    refine wp_seq_k fun khK5 hK5 => ?_
    refine wp_region_lit ?_
    refine l_at hF rfl rfl rfl (x_move (hF.tmp 0 rfl)) ?_; clear hF; intro a hF
    refine wpList_plain rfl fun K hK => ?_
    refine w_lit0 (.int .u8) 9 hF hH rfl Try.underlying42 ty5 ?_
    clear hF hH; intro a w b9 hF hH
    refine hK _ _ ?_; clear hK K
    refine l_at hF rfl rfl rfl (x_move (hF.tmp 1 rfl)) ?_; clear hF; intro a hF
    refine wpList_plain rfl fun K hK => ?_
    refine w_append 9 901 (xs := ([])) (ys := bs) hF hH rfl Try.underlying42 ty5 rfl rfl rfl rfl ((hH.rd 901 rfl)) (by intro k_ hk_; exact .inr hk_) (hF.tmp 9 rfl) (hF.tmp 10 rfl) (by simp only [List.length_nil]; omega) (by simp only [List.length_nil, maxLen]; omega) (fun _ => False) (fun w' v' h => row_flat h _) (fun k_ hk_ => hk_.elim) ?_
    clear hF hH; intro a w v11 hF hH
    refine hK _ _ ?_; clear hK K
    rw [List.nil_append] at hH
    obtain ⟨A11, c11, rfl⟩ := (hH.row 9 rfl).form
    have hb11_ : ∀ k, (Value.slice A11 bs.length c11).ownBlock = some k → _ := hH.mine 9 _ rfl
    have hH := hH.freeze 9 rfl (fun k => (Value.slice A11 bs.length c11).ownBlock = some k) (fun k => ⟨fun h => .inr h, fun h => h.resolve_left id⟩)
    have hH := hH.subrd 9 rfl 3 (hH.rd 9 rfl) (fun _ h => h)
    refine l_at hF rfl rfl rfl (x_nil (hF.tmp 8 rfl)) ?_; clear hF; intro a hF
    refine l_at hF rfl rfl rfl (x_faddr Try.underlying61 rfl ty42 (by decide) (hF.tmp 12 rfl) rfl) ?_; clear hF; intro a hF
    refine wpList_plain rfl fun K hK => ?_
    refine w_store 1 hH ty42 rfl (hF.tmp 13 rfl) (hF.tmp 11 rfl) rfl (one1 rfl rfl) (by first | decide | exact Nat.le_of_ble_eq_true rfl) ?_
    clear hH; intro w hH
    refine hK _ _ ?_; clear hK K
    refine wpList_nil ?_
    refine hK5 _ _ ?_
    refine wp_seq_k fun khK6 hK6 => ?_
    refine wp_region_lit ?_
    refine l_at hF rfl rfl rfl (x_assign rfl) ?_; clear hF; intro a hF
    refine wpList_nil ?_
    refine hK6 _ _ ?_
    refine wp_ret ?_
    try simp only [Exit.then, Exit.inBlock]
    have hE_ := hon.1
    have hM_ := hon.2
    refine fin_ret hF (res1 hF rfl rfl) ⟨Asn.all [(1, .blk bd (.cells #[.slice As S.length cs, .slice A11 bs.length c11] 61 (0, 0))), (2, .rd_ SgE As S cs oks), (3, .rd_ (.int .u8) A11 bs c11 (fun k => (Value.slice A11 bs.length c11).ownBlock = some k))], by rw [hE_] <;> rfl, by rw [hM_]; exact ⟨_, _, _, _, _, _, rfl⟩, grew_of (hH.sub [(1, .blk bd (.cells #[.slice As S.length cs, .slice A11 bs.length c11] 61 (0, 0))), (2, .rd_ SgE As S cs oks), (3, .rd_ (.int .u8) A11 bs c11 (fun k => (Value.slice A11 bs.length c11).ownBlock = some k))] (sub_cons (sub_cons (sub_cons (sub_nil _) 3 rfl) 2 rfl) 1 rfl)) (rdin_cons (fun k h => h.elim) (rdin_cons (fun k h => .inr (.inl ⟨2, _, rfl, h⟩)) (rdin_cons (fun k h => (hb11_ k h).elim .inl (fun h => .inr (.inr (.inr h)))) rdin_nil)))⟩

set_option maxRecDepth 100000 in
set_option maxHeartbeats 1000000 in
theorem rpower_calls (w0 : World) {X : Asn} {bd : Nat} {S : DM} {rt : List Int} (hX : RefA 61 bd S rt X) (hok : X.ok w0) (hSrt : Srt S) (hSl : S.length ≤ 1000) (hi : DInv S) (hrt : rt.length ≤ 100000000) {okk : Nat → Prop} {Ak : Option Addr} {keep : List Int} {ck : Nat} (hrk : Rd (.int .i64) w0 okk Ak keep ck) (hkp : ∀ c ∈ keep, -9223372036854775808 ≤ c ∧ c < 9223372036854775808) : Calls Try.prog 39 #[.pointer (some ⟨bd, 0, none⟩), .slice Ak keep.length ck] w0 fun e w' => ∃ bo X', e = .returned (.pointer (some ⟨bo, 0, none⟩)) ∧ RefA 61 bo (powS S keep S.length) rt X' ∧ X'.ok w' ∧ Mods (fun _ => False) w0 w' ∧ (∀ k, X'.own k → w0.heap.size ≤ k) ∧ (∀ k, X'.rd k → w0.heap.size ≤ k) := by
  obtain ⟨As, cs, Ar, cr, oks, okr, rfl⟩ := hX
  refine calls_of_wp Try.func39 rfl ?_
  have hF := Fr.enter #[.pointer (some ⟨bd, 0, none⟩), .slice Ak keep.length ck] 74 (slotsOf [.pointer (some ⟨bd, 0, none⟩), .slice Ak keep.length ck] 0) (Nat.le_of_ble_eq_true rfl) (fun i v h => by have h2 := (get_slotsOf _ 0 i v h).2; simpa only [List.getElem?_toArray, Nat.sub_zero] using h2)
  rw [Try.ntmps39]
  revert hF; generalize (⟨(#[.pointer (some ⟨bd, 0, none⟩), .slice Ak keep.length ck] : Array Value) ++ Array.replicate (74 - (#[.pointer (some ⟨bd, 0, none⟩), .slice Ak keep.length ck] : Array Value).size) undef, []⟩ : Act) = a; intro hF
  have hH := ref_ro hok.holds
  have hleS := (hH.rd 2 rfl).le; have hlert := (hH.rd 3 rfl).le; unfold maxLen at hleS hlert
  have hH := hH.arg 902 hrk.all (fun _ h => ⟨h, fun h => h⟩)
  have hlk := hrk.le; unfold maxLen at hlk
  refine wp_seq_k fun khK1 hK1 => ?_
  refine wp_region_lit ?_
  refine l_at hF rfl rfl rfl (x_assign rfl) ?_; clear hF; intro a hF
  refine wpList_nil ?_
  refine hK1 _ _ ?_
  refine wp_seq_k fun khK2 hK2 => ?_
  refine wp_region_lit ?_
  refine wpList_plain rfl fun K hK => ?_
  refine w_lit0 (.int .u8) 9 hF hH rfl Try.underlying42 ty5 ?_
  clear hF hH; intro a w b9 hF hH
  refine hK _ _ ?_; clear hK K
  refine l_at hF rfl rfl rfl (x_move (hF.tmp 0 rfl)) ?_; clear hF; intro a hF
  refine l_at hF rfl rfl rfl (x_nil (hF.tmp 10 rfl)) ?_; clear hF; intro a hF
  refine l_at hF rfl rfl rfl (x_faddr Try.underlying61 rfl ty42 (by decide) (hF.tmp 11 rfl) rfl) ?_; clear hF; intro a hF
  refine l_at hF rfl rfl rfl (x_load1 ty42 (hF.tmp 12 rfl) (blk_cell (hH.atro 1 rfl) 1 rfl)) ?_; clear hF; intro a hF
  refine wpList_plain rfl fun K hK => ?_
  refine w_append 9 3 (xs := ([])) (ys := rt) hF hH rfl Try.underlying42 ty5 rfl rfl rfl rfl ((hH.rd 3 rfl)) (by intro k_ hk_; exact .inr hk_) (hF.tmp 9 rfl) (hF.tmp 13 rfl) (by simp only [List.length_nil]; omega) (by simp only [List.length_nil, maxLen]; omega) (fun _ => False) (fun w' v' h => row_flat h _) (fun k_ hk_ => hk_.elim) ?_
  clear hF hH; intro a w v14 hF hH
  refine hK _ _ ?_; clear hK K
  rw [List.nil_append] at hH
  obtain ⟨A14, c14, rfl⟩ := (hH.row 9 rfl).form
  have hb14_ : ∀ k, (Value.slice A14 rt.length c14).ownBlock = some k → _ := hH.mine 9 _ rfl
  have hH := hH.freeze 9 rfl (fun k => (Value.slice A14 rt.length c14).ownBlock = some k) (fun k => ⟨fun h => .inr h, fun h => h.resolve_left id⟩)
  have hb14n : ∀ k, (Value.slice A14 rt.length c14).ownBlock = some k → w0.heap.size ≤ k := fun k h => (hb14_ k h).resolve_left id
  refine l_at hF rfl rfl rfl (x_buildS (cells := #[.slice none 0 0, .slice A14 rt.length c14]) (places := #[(0, 1), (1, 1)]) Try.underlying61 ty61 (by kernel_rfl) (by simp only [List.map_toArray, List.map_cons, List.map_nil, hF.tmp 14 rfl] <;> rfl) rfl) ?_; clear hF; intro a hF
  refine wpList_plain rfl fun K hK => ?_
  refine w_box 5 hF hH rfl (hF.tmp 15 rfl) ?_
  clear hF hH; intro a w b16 hF hH
  refine hK _ _ ?_; clear hK K
  have hH := hH.row0 55 SgE 115
  refine l_at hF rfl rfl rfl (x_assign (hF.tmp 16 rfl)) ?_; clear hF; intro a hF
  refine wpList_nil ?_
  refine hK2 _ _ ?_
  refine wp_seq_k fun khK3 hK3 => ?_
  refine wp_seq_k fun khK4 hK4 => ?_
  refine wp_region_lit ?_
  refine l_at hF rfl rfl rfl (x_assign rfl) ?_; clear hF; intro a hF
  refine wpList_nil ?_
  refine hK4 _ _ ?_
  refine wp_block ?_
  refine wp_loop_ghost (fun n_ a w => ∃ j : Nat, ∃ A_ : Option Addr, ∃ c_ : Nat, ∃ okv : Nat → Prop, n_ = S.length - j ∧ (j ≤ S.length) ∧ (∀ k, okv k → w0.heap.size ≤ k) ∧ Fr 74 a [(0, .pointer (some ⟨bd, 0, none⟩)), (1, .slice Ak keep.length ck), (5, .pointer (some ⟨b16, 0, none⟩)), (6, .int .i64 (j : Int))] ∧ Hp (fun _ => False) w0 w [(1, .ro (.blk bd (.cells #[.slice As S.length cs, .slice Ar rt.length cr] 61 (0, 0)))), (2, .rd_ SgE As S cs oks), (3, .rd_ (.int .u8) Ar rt cr okr), (902, .rd_ (.int .i64) Ak keep ck (fun k => k < w0.heap.size)), (9, .rd_ (.int .u8) A14 rt c14 (fun k => (Value.slice A14 rt.length c14).ownBlock = some k)), (5, .blk b16 (.cells #[.slice A_ (powS S keep j).length c_, .slice A14 rt.length c14] 61 (0, 0))), (55, .row SgE 115 (.slice A_ (powS S keep j).length c_) (powS S keep j) okv)]) (S.length) ?_ ?_
  · exact ⟨0, none, 0, (fun _ => False), rfl, by omega, fun k h => h.elim, ((((hF.bare.add hF 6 rfl).add hF 5 rfl).add hF 1 rfl).add hF 0 rfl), hH.sub _ (sub_cons (sub_cons (sub_cons (sub_cons (sub_cons (sub_cons (sub_cons (sub_nil _) 55 rfl) 5 rfl) 9 rfl) 902 rfl) 3 rfl) 2 rfl) 1 rfl)⟩
  · rintro _ a w ⟨j, A_, c_, okv, rfl, hq0_0, hq0_1, hF, hH⟩
    refine wp_seq_k fun khK5 hK5 => ?_
    refine wp_seq_k fun khK6 hK6 => ?_
    refine wp_region_lit ?_
    refine l_at hF rfl rfl rfl (x_move (hF.tmp 6 rfl)) ?_; clear hF; intro a hF
    refine l_at hF rfl rfl rfl (x_move (hF.tmp 0 rfl)) ?_; clear hF; intro a hF
    refine l_at hF rfl rfl rfl (x_nil (hF.tmp 18 rfl)) ?_; clear hF; intro a hF
    refine l_at hF rfl rfl rfl (x_faddr Try.underlying61 rfl ty59 (by decide) (hF.tmp 19 rfl) rfl) ?_; clear hF; intro a hF
    refine l_at hF rfl rfl rfl (x_load1 ty59 (hF.tmp 20 rfl) (blk_cell (hH.atro 1 rfl) 0 rfl)) ?_; clear hF; intro a hF
    refine l_at hF rfl rfl rfl (x_len_slice Try.underlying59 (hF.tmp 21 rfl)) ?_; clear hF; intro a hF
    refine l_at hF rfl rfl rfl (x_lss (hF.tmp 17 rfl) (hF.tmp 22 rfl)) ?_; clear hF; intro a hF
    refine wpList_nil ?_
    refine hK6 _ _ ?_
    refine wp_cond_split (hF.tmp 23 rfl) (fun hc23 => ?_) (fun hc23 => ?_)
    · try simp only [Bool.or_eq_true, Bool.and_eq_true, Bool.or_eq_false_iff, Bool.and_eq_false_iff, Bool.not_eq_true', Bool.not_eq_false', decide_eq_true_eq, decide_eq_false_iff_not, Bool.not_true, Bool.not_false] at hc23
      obtain ⟨fA1, fc1, hfr1, hf1_0, hf1_1, hf1_2, hfw1⟩ := rd_sg ((hH.rd 2 rfl)) (gq_some (xs := S) (i := (j : Int)) (by omega) (by omega))
      have hH := hH.subrd 2 rfl 1001 hfr1 (fun _ h => h)
      have hH := hH.subcel 2 rfl 1500 hf1_0 (Rd.inok ((hH.rd 2 rfl)) (by omega) _)
      have hH := hH.subcel 2 rfl 1501 hf1_1 (Rd.inok ((hH.rd 2 rfl)) (by omega) _)
      have hH := hH.subcel 2 rfl 1502 hf1_2 (Rd.inok ((hH.rd 2 rfl)) (by omega) _)
      have hsg := hi.at_ (j := j) (by omega)
      have hlr := left_range hi keep (j := j) (by omega)
      refine wp_skip ?_
      refine hK5 _ _ ?_
      refine wp_seq_k fun khK7 hK7 => ?_
      refine wp_block ?_
      refine wp_seq_k fun khK8 hK8 => ?_
      refine wp_region_lit ?_
      refine l_at hF rfl rfl rfl (x_move (hF.tmp 0 rfl)) ?_; clear hF; intro a hF
      refine l_at hF rfl rfl rfl (x_nil (hF.tmp 26 rfl)) ?_; clear hF; intro a hF
      refine l_at hF rfl rfl rfl (x_faddr Try.underlying61 rfl ty59 (by decide) (hF.tmp 27 rfl) rfl) ?_; clear hF; intro a hF
      refine l_at hF rfl rfl rfl (x_load1 ty59 (hF.tmp 28 rfl) (blk_cell (hH.atro 1 rfl) 0 rfl)) ?_; clear hF; intro a hF
      refine l_at hF rfl rfl rfl (x_move (hF.tmp 6 rfl)) ?_; clear hF; intro a hF
      refine l_at hF rfl rfl rfl (x_iaddr_A Try.underlying59 ty115 ((hH.rd 2 rfl)) (hF.tmp 29 rfl) (hF.tmp 30 rfl) (by omega) (by omega) _) ?_; clear hF; intro a hF
      refine l_at hF rfl rfl rfl (x_loadn ty115 (hF.tmp 31 rfl) rfl hfw1) ?_; clear hF; intro a hF
      refine wpList_plain rfl fun K hK => ?_
      refine w_alloc 7 hF hH rfl ty115 ?_
      clear hF hH; intro a w b7 hF hH
      refine hK _ _ ?_; clear hK K
      refine wpList_plain rfl fun K hK => ?_
      refine w_storeA 7 hH ty115 rfl (hF.tmp 7 rfl) (hF.tmp 32 rfl) rfl (by simp [Value.cells, Value.oneCell']) rfl ?_
      clear hH; intro w hH
      refine hK _ _ ?_; clear hK K
      refine wpList_nil ?_
      refine hK8 _ _ ?_
      refine wp_seq_k fun khK9 hK9 => ?_
      refine wp_region_lit ?_
      refine l_at hF rfl rfl rfl (x_faddr Try.underlying115 rfl ty3 (by decide) (hF.tmp 7 rfl) rfl) ?_; clear hF; intro a hF
      refine l_at hF rfl rfl rfl (x_load1 ty3 (hF.tmp 33 rfl) (blk_cell (hH.at 7 rfl) 2 rfl)) ?_; clear hF; intro a hF
      refine l_at hF rfl rfl rfl (x_assign (hF.tmp 34 rfl)) ?_; clear hF; intro a hF
      refine wpList_nil ?_
      refine hK9 _ _ ?_
      refine wp_seq_k fun khK10 hK10 => ?_
      refine wp_seq_k fun khK11 hK11 => ?_
      refine wp_region_lit ?_
      refine l_at hF rfl rfl rfl (x_move (hF.tmp 6 rfl)) ?_; clear hF; intro a hF
      refine l_at hF rfl rfl rfl (x_move (hF.tmp 1 rfl)) ?_; clear hF; intro a hF
      refine l_at hF rfl rfl rfl (x_len_slice Try.underlying32 (hF.tmp 36 rfl)) ?_; clear hF; intro a hF
      refine l_at hF rfl rfl rfl (x_lss (hF.tmp 35 rfl) (hF.tmp 37 rfl)) ?_; clear hF; intro a hF
      refine wpList_nil ?_
      refine hK11 _ _ ?_
      have hJ38 : ∀ a w, Fr 74 a [(0, .pointer (some ⟨bd, 0, none⟩)), (1, .slice Ak keep.length ck), (5, .pointer (some ⟨b16, 0, none⟩)), (6, .int .i64 (j : Int)), (7, .pointer (some ⟨b7, 0, none⟩)), (8, .int .i64 (leftS S keep j))] → Hp (fun _ => False) w0 w [(1, .ro (.blk bd (.cells #[.slice As S.length cs, .slice Ar rt.length cr] 61 (0, 0)))), (2, .rd_ SgE As S cs oks), (3, .rd_ (.int .u8) Ar rt cr okr), (902, .rd_ (.int .i64) Ak keep ck (fun k => k < w0.heap.size)), (9, .rd_ (.int .u8) A14 rt c14 (fun k => (Value.slice A14 rt.length c14).ownBlock = some k)), (5, .blk b16 (.cells #[.slice A_ (powS S keep j).length c_, .slice A14 rt.length c14] 61 (0, 0))), (55, .row SgE 115 (.slice A_ (powS S keep j).length c_) (powS S keep j) okv), (1001, .rd_ (.int .u8) (fA1) (gq S (j : Int)).2.1 fc1 oks), (1500, .cel (adr As ((j : Int).toNat * 3)) (.int .i64 (gq S (j : Int)).1)), (1501, .cel (adr As ((j : Int).toNat * 3 + 1)) (.slice fA1 (gq S (j : Int)).2.1.length fc1)), (1502, .cel (adr As ((j : Int).toNat * 3 + 2)) (.int .i64 (gq S (j : Int)).2.2)), (7, .blk b7 (.cells #[.int .i64 (gq S (j : Int)).1, .slice fA1 (gq S (j : Int)).2.1.length fc1, .int .i64 (gq S (j : Int)).2.2] 115 (0, 0)))] → khK10 a w := by
        intro a w  hF hH
        refine hK10 a w ?_
        refine wp_seq_k fun khK12 hK12 => ?_
        refine wp_region_lit ?_
        refine l_at hF rfl rfl rfl (x_move (hF.tmp 8 rfl)) ?_; clear hF; intro a hF
        refine l_at hF rfl rfl rfl (x_gtr (hF.tmp 52 rfl) rfl) ?_; clear hF; intro a hF
        refine wpList_nil ?_
        refine hK12 _ _ ?_
        refine wp_cond_split (hF.tmp 53 rfl) (fun hc53 => ?_) (fun hc53 => ?_)
        · try simp only [Bool.or_eq_true, Bool.and_eq_true, Bool.or_eq_false_iff, Bool.and_eq_false_iff, Bool.not_eq_true', Bool.not_eq_false', decide_eq_true_eq, decide_eq_false_iff_not, Bool.not_true, Bool.not_false] at hc53
          refine r_start [(7, .blk b7 (.cells #[.int .i64 (gq S (j : Int)).1, .slice fA1 (gq S (j : Int)).2.1.length fc1, .int .i64 (gq S (j : Int)).2.2] 115 (0, 0))), (1001, .rd_ (.int .u8) (fA1) (gq S (j : Int)).2.1 fc1 oks)] (by kernel_rfl) hH fun hH => ?_
          have hS : SL [(7, .blk b7 (.cells #[.int .i64 (gq S (j : Int)).1, .slice fA1 (gq S (j : Int)).2.1.length fc1, .int .i64 (gq S (j : Int)).2.2] 115 (0, 0))), (1001, .rd_ (.int .u8) (fA1) (gq S (j : Int)).2.1 fc1 oks)] _ := SL.of hH (sub_cons (sub_cons (sub_nil _) 1001 rfl) 7 rfl)
          refine r_take 0 hF rfl rfl rfl (by kernel_rfl) (by kernel_rfl) (by kernel_rfl) (fun _ _ _ h => h) rfl hS (fun w hS => x_move (hF.tmp 5 rfl)) rfl ?_; clear hF; intro a hF
          refine r_take 1 hF rfl rfl rfl (by kernel_rfl) (by kernel_rfl) (by kernel_rfl) (fun _ _ _ h => h) rfl hS (fun w hS => x_move (hF.tmp 5 rfl)) rfl ?_; clear hF; intro a hF
          refine r_take 2 hF rfl rfl rfl (by kernel_rfl) (by kernel_rfl) (by kernel_rfl) (fun _ _ _ h => h) rfl hS (fun w hS => x_nil (hF.tmp 55 rfl)) rfl ?_; clear hF; intro a hF
          refine r_take 3 hF rfl rfl rfl (by kernel_rfl) (by kernel_rfl) (by kernel_rfl) (fun _ _ _ h => h) rfl hS (fun w hS => x_faddr Try.underlying61 rfl ty59 (by decide) (hF.tmp 56 rfl) rfl) rfl ?_; clear hF; intro a hF
          refine r_take 5 hF rfl rfl rfl (by kernel_rfl) (by kernel_rfl) (by kernel_rfl) (fun _ _ _ h => h) rfl hS (fun w hS => x_faddr Try.underlying115 rfl ty3 (by decide) (hF.tmp 7 rfl) rfl) rfl ?_; clear hF; intro a hF
          refine r_take 6 hF rfl rfl rfl (by kernel_rfl) (by kernel_rfl) (by kernel_rfl) (fun _ _ _ h => h) rfl hS (fun w hS => x_load1 ty3 (hF.tmp 59 rfl) (blk_cell (SL.at_ hS 7 rfl) 0 rfl)) rfl ?_; clear hF; intro a hF
          refine r_take 8 hF rfl rfl rfl (by kernel_rfl) (by kernel_rfl) (by kernel_rfl) (fun _ _ _ h => h) rfl hS (fun w hS => x_faddr Try.underlying115 rfl ty42 (by decide) (hF.tmp 7 rfl) rfl) rfl ?_; clear hF; intro a hF
          refine r_take 9 hF rfl rfl rfl (by kernel_rfl) (by kernel_rfl) (by kernel_rfl) (fun _ _ _ h => h) rfl hS (fun w hS => x_load1 ty42 (hF.tmp 62 rfl) (blk_cell (SL.at_ hS 7 rfl) 1 rfl)) rfl ?_; clear hF; intro a hF
          refine r_take 10 hF rfl rfl rfl (by kernel_rfl) (by kernel_rfl) (by kernel_rfl) (fun _ _ _ h => h) rfl hS (fun w hS => x_move (hF.tmp 8 rfl)) rfl ?_; clear hF; intro a hF
          refine r_take 11 hF rfl rfl rfl (by kernel_rfl) (by kernel_rfl) (by kernel_rfl) (fun _ _ _ h => h) rfl hS (fun w hS => x_slice_h Try.underlying42 ty5 (hF.tmp 63 rfl) (hF.tmp 64 rfl) (by omega) (by omega) ((hH.rd 1001 rfl)).1) rfl ?_; clear hF; intro a hF
          refine r_take 13 hF rfl rfl rfl (by kernel_rfl) (by kernel_rfl) (by kernel_rfl) (fun _ _ _ h => h) rfl hS (fun w hS => x_move (hF.tmp 8 rfl)) rfl ?_; clear hF; intro a hF
          refine r_do2 4 7 rfl rfl (by kernel_rfl) rfl rfl rfl rfl ?_ ?_
          ·
            refine w_at hF (x_load1 ty59 (hF.tmp 57 rfl) (blk_cell (hH.at 5 rfl) 0 rfl)) rfl rfl ?_
            clear hF; intro a hF
            clear hS; have hS : SL _ _ := SL.of hH (sub_cons (sub_cons (sub_nil _) 1001 rfl) 7 rfl); refine ⟨hS, ?_⟩
            refine r_do 7 rfl (by kernel_rfl) rfl rfl ?_
            refine w_lit0 (.int .u8) 61 hF hH rfl Try.underlying42 ty5 ?_
            clear hF hH; intro a w b61 hF hH
            clear hS; have hS : SL _ _ := SL.of hH (sub_cons (sub_cons (sub_nil _) 1001 rfl) 7 rfl); refine ⟨hS, ?_⟩
            refine r_do 12 rfl (by kernel_rfl) rfl rfl ?_
            refine w_append 61 1001 (xs := ([])) (ys := (((gq S (j : Int)).2.1).take ((leftS S keep j).toNat))) hF hH rfl Try.underlying42 ty5 rfl rfl rfl rfl ((Rd.take ((hH.rd 1001 rfl)) ((leftS S keep j).toNat))) (by intro k_ hk_; exact .inr hk_) (hF.tmp 61 rfl) (hF.tmp 65 rfl) (by simp only [List.length_nil, List.length_take]; omega) (by simp only [List.length_nil, List.length_take, maxLen]; omega) (fun _ => False) (fun w' v' h => row_flat h _) (fun k_ hk_ => hk_.elim) ?_
            clear hF hH; intro a w v66 hF hH
            clear hS; have hS : SL _ _ := SL.of hH (sub_cons (sub_cons (sub_nil _) 1001 rfl) 7 rfl); refine ⟨hS, ?_⟩
            rw [List.nil_append] at hH
            obtain ⟨A66, c66, rfl⟩ := (hH.row 61 rfl).form
            have hb66_ : ∀ k, (Value.slice A66 ((gq S (j : Int)).2.1.take (leftS S keep j).toNat).length c66).ownBlock = some k → _ := hH.mine 61 _ rfl
            have hH := hH.freeze 61 rfl (fun k => (Value.slice A66 ((gq S (j : Int)).2.1.take (leftS S keep j).toNat).length c66).ownBlock = some k) (fun k => ⟨fun h => .inr h, fun h => h.resolve_left id⟩)
            refine r_take 14 hF rfl rfl rfl (by kernel_rfl) (by kernel_rfl) (by kernel_rfl) (fun _ _ _ h => h) rfl hS (fun w hS => x_buildS (cells := #[.int .i64 (gq S (j : Int)).1, .slice A66 ((gq S (j : Int)).2.1.take (leftS S keep j).toNat).length c66, .int .i64 (leftS S keep j)]) (places := #[(0, 1), (1, 1), (2, 1)]) Try.underlying115 ty115 (by kernel_rfl) (by simp only [List.map_toArray, List.map_cons, List.map_nil, hF.tmp 60 rfl, hF.tmp 66 rfl, hF.tmp 67 rfl] <;> rfl) rfl) rfl ?_; clear hF; intro a hF
            refine r_do 15 rfl (by kernel_rfl) rfl rfl ?_
            refine w_lit1 69 SgE ((gq S (j : Int)).1, (((gq S (j : Int)).2.1.take (leftS S keep j).toNat), (leftS S keep j))) #[.int .i64 (gq S (j : Int)).1, .slice A66 ((gq S (j : Int)).2.1.take (leftS S keep j).toNat).length c66, .int .i64 (leftS S keep j)] (fun k => (Value.slice A66 ((gq S (j : Int)).2.1.take (leftS S keep j).toNat).length c66).ownBlock = some k) hF hH rfl Try.underlying59 ty115 (by simp only [List.map_toArray, List.map_cons, List.map_nil, hF.tmp 68 rfl] <;> rfl) (by decide) (by kernel_rfl) (sg_mk (x := ((gq S (j : Int)).1, (((gq S (j : Int)).2.1.take (leftS S keep j).toNat), (leftS S keep j)))) (hH.rd 61 rfl)) (fun k hk => ⟨61, _, rfl, hk⟩) ?_
            clear hF hH; intro a w b69 hF hb69_ hH
            clear hS; have hS : SL _ _ := SL.of hH (sub_cons (sub_cons (sub_nil _) 1001 rfl) 7 rfl); refine ⟨hS, ?_⟩
            refine r_do 16 rfl (by kernel_rfl) rfl rfl ?_
            refine w_append 55 69 (xs := (powS S keep j)) (ys := ([((gq S (j : Int)).1, (((gq S (j : Int)).2.1.take (leftS S keep j).toNat), (leftS S keep j)))])) hF hH rfl Try.underlying59 ty115 rfl rfl rfl rfl ((hH.rd 69 rfl)) (by intro k_ hk_; exact .inr hk_) (hF.tmp 58 rfl) (hF.tmp 69 rfl) (by have := pow_len S keep (j := j) (by omega); simp only [List.length_cons, List.length_nil]; omega) (by have := pow_len S keep (j := j) (by omega); simp only [List.length_cons, List.length_nil, maxLen]; omega) (fun k => okv k ∨ (fun k => (fun k => (Value.slice A66 ((gq S (j : Int)).2.1.take (leftS S keep j).toNat).length c66).ownBlock = some k) k ∨ k = b69) k) (fun w' v' h => h) (by rintro k_ (hk_ | hk_); exact .inl hk_; exact .inr hk_) ?_
            clear hF hH; intro a w v70 hF hH
            clear hS; have hS : SL _ _ := SL.of hH (sub_cons (sub_cons (sub_nil _) 1001 rfl) 7 rfl); refine ⟨hS, ?_⟩
            rw [pow_some hSrt.keys (by omega) hc53] at hH
            obtain ⟨A70, c70, rfl⟩ := (hH.row 55 rfl).form
            have hok70 : ∀ k, (fun k => okv k ∨ (fun k => (fun k => (Value.slice A66 ((gq S (j : Int)).2.1.take (leftS S keep j).toNat).length c66).ownBlock = some k) k ∨ k = b69) k) k → w0.heap.size ≤ k := by
              rintro k (h | h | h)
              · exact hq0_1 k h
              · exact (hb66_ k h).resolve_left id
              · subst h; exact hb69_.resolve_left id
            refine r_take 17 hF rfl rfl rfl (by kernel_rfl) (by kernel_rfl) (by kernel_rfl) (fun _ _ _ h => h) rfl hS (fun w hS => x_nil (hF.tmp 54 rfl)) rfl ?_; clear hF; intro a hF
            refine r_take 18 hF rfl rfl rfl (by kernel_rfl) (by kernel_rfl) (by kernel_rfl) (fun _ _ _ h => h) rfl hS (fun w hS => x_faddr Try.underlying61 rfl ty59 (by decide) (hF.tmp 71 rfl) rfl) rfl ?_; clear hF; intro a hF
            refine r_do 19 rfl (by kernel_rfl) rfl rfl ?_
            refine w_store 5 hH ty59 rfl (hF.tmp 72 rfl) (hF.tmp 70 rfl) rfl (one1 rfl rfl) (by first | decide | exact Nat.le_of_ble_eq_true rfl) ?_
            clear hH; intro w hH
            clear hS; have hS : SL _ _ := SL.of hH (sub_cons (sub_cons (sub_nil _) 1001 rfl) 7 rfl); refine ⟨hS, ?_⟩
            refine r_end (by kernel_rfl) ?_; clear hS
            refine hK7 _ _ ?_
            refine wp_region_lit ?_
            refine l_at hF rfl rfl rfl (x_move (hF.tmp 6 rfl)) ?_; clear hF; intro a hF
            refine l_at hF rfl rfl rfl (x_add (hF.tmp 24 rfl) rfl (w64 (by omega) (by omega))) ?_; clear hF; intro a hF
            refine l_at hF rfl rfl rfl (x_assign (hF.tmp 25 rfl)) ?_; clear hF; intro a hF
            refine wpList_nil ?_
            exact ⟨_, by omega, ⟨j + 1, A70, c70, _, rfl, by omega, hok70, ((((hF.bare.add hF 6 rfl).add hF 5 rfl).add hF 1 rfl).add hF 0 rfl), hH.sub _ (sub_cons (sub_cons (sub_cons (sub_cons (sub_cons (sub_cons (sub_cons (sub_nil _) 55 rfl) 5 rfl) 9 rfl) 902 rfl) 3 rfl) 2 rfl) 1 rfl)⟩⟩
          ·
            refine w_lit0 (.int .u8) 61 hF hH rfl Try.underlying42 ty5 ?_
            clear hF hH; intro a w b61 hF hH
            clear hS; have hS : SL _ _ := SL.of hH (sub_cons (sub_cons (sub_nil _) 1001 rfl) 7 rfl); refine ⟨hS, ?_⟩
            refine r_do2 4 12 rfl rfl (by kernel_rfl) rfl rfl rfl rfl ?_ ?_
            ·
              refine w_at hF (x_load1 ty59 (hF.tmp 57 rfl) (blk_cell (hH.at 5 rfl) 0 rfl)) rfl rfl ?_
              clear hF; intro a hF
              clear hS; have hS : SL _ _ := SL.of hH (sub_cons (sub_cons (sub_nil _) 1001 rfl) 7 rfl); refine ⟨hS, ?_⟩
              refine r_do 12 rfl (by kernel_rfl) rfl rfl ?_
              refine w_append 61 1001 (xs := ([])) (ys := (((gq S (j : Int)).2.1).take ((leftS S keep j).toNat))) hF hH rfl Try.underlying42 ty5 rfl rfl rfl rfl ((Rd.take ((hH.rd 1001 rfl)) ((leftS S keep j).toNat))) (by intro k_ hk_; exact .inr hk_) (hF.tmp 61 rfl) (hF.tmp 65 rfl) (by simp only [List.length_nil, List.length_take]; omega) (by simp only [List.length_nil, List.length_take, maxLen]; omega) (fun _ => False) (fun w' v' h => row_flat h _) (fun k_ hk_ => hk_.elim) ?_
              clear hF hH; intro a w v66 hF hH
              clear hS; have hS : SL _ _ := SL.of hH (sub_cons (sub_cons (sub_nil _) 1001 rfl) 7 rfl); refine ⟨hS, ?_⟩
              rw [List.nil_append] at hH
              obtain ⟨A66, c66, rfl⟩ := (hH.row 61 rfl).form
              have hb66_ : ∀ k, (Value.slice A66 ((gq S (j : Int)).2.1.take (leftS S keep j).toNat).length c66).ownBlock = some k → _ := hH.mine 61 _ rfl
              have hH := hH.freeze 61 rfl (fun k => (Value.slice A66 ((gq S (j : Int)).2.1.take (leftS S keep j).toNat).length c66).ownBlock = some k) (fun k => ⟨fun h => .inr h, fun h => h.resolve_left id⟩)
              refine r_take 14 hF rfl rfl rfl (by kernel_rfl) (by kernel_rfl) (by kernel_rfl) (fun _ _ _ h => h) rfl hS (fun w hS => x_buildS (cells := #[.int .i64 (gq S (j : Int)).1, .slice A66 ((gq S (j : Int)).2.1.take (leftS S keep j).toNat).length c66, .int .i64 (leftS S keep j)]) (places := #[(0, 1), (1, 1), (2, 1)]) Try.underlying115 ty115 (by kernel_rfl) (by simp only [List.map_toArray, List.map_cons, List.map_nil, hF.tmp 60 rfl, hF.tmp 66 rfl, hF.tmp 67 rfl] <;> rfl) rfl) rfl ?_; clear hF; intro a hF
              refine r_do 15 rfl (by kernel_rfl) rfl rfl ?_
              refine w_lit1 69 SgE ((gq S (j : Int)).1, (((gq S (j : Int)).2.1.take (leftS S keep j).toNat), (leftS S keep j))) #[.int .i64 (gq S (j : Int)).1, .slice A66 ((gq S (j : Int)).2.1.take (leftS S keep j).toNat).length c66, .int .i64 (leftS S keep j)] (fun k => (Value.slice A66 ((gq S (j : Int)).2.1.take (leftS S keep j).toNat).length c66).ownBlock = some k) hF hH rfl Try.underlying59 ty115 (by simp only [List.map_toArray, List.map_cons, List.map_nil, hF.tmp 68 rfl] <;> rfl) (by decide) (by kernel_rfl) (sg_mk (x := ((gq S (j : Int)).1, (((gq S (j : Int)).2.1.take (leftS S keep j).toNat), (leftS S keep j)))) (hH.rd 61 rfl)) (fun k hk => ⟨61, _, rfl, hk⟩) ?_
              clear hF hH; intro a w b69 hF hb69_ hH
              clear hS; have hS : SL _ _ := SL.of hH (sub_cons (sub_cons (sub_nil _) 1001 rfl) 7 rfl); refine ⟨hS, ?_⟩
              refine r_do 16 rfl (by kernel_rfl) rfl rfl ?_
              refine w_append 55 69 (xs := (powS S keep j)) (ys := ([((gq S (j : Int)).1, (((gq S (j : Int)).2.1.take (leftS S keep j).toNat), (leftS S keep j)))])) hF hH rfl Try.underlying59 ty115 rfl rfl rfl rfl ((hH.rd 69 rfl)) (by intro k_ hk_; exact .inr hk_) (hF.tmp 58 rfl) (hF.tmp 69 rfl) (by have := pow_len S keep (j := j) (by omega); simp only [List.length_cons, List.length_nil]; omega) (by have := pow_len S keep (j := j) (by omega); simp only [List.length_cons, List.length_nil, maxLen]; omega) (fun k => okv k ∨ (fun k => (fun k => (Value.slice A66 ((gq S (j : Int)).2.1.take (leftS S keep j).toNat).length c66).ownBlock = some k) k ∨ k = b69) k) (fun w' v' h => h) (by rintro k_ (hk_ | hk_); exact .inl hk_; exact .inr hk_) ?_
              clear hF hH; intro a w v70 hF hH
              clear hS; have hS : SL _ _ := SL.of hH (sub_cons (sub_cons (sub_nil _) 1001 rfl) 7 rfl); refine ⟨hS, ?_⟩
              rw [pow_some hSrt.keys (by omega) hc53] at hH
              obtain ⟨A70, c70, rfl⟩ := (hH.row 55 rfl).form
              have hok70 : ∀ k, (fun k => okv k ∨ (fun k => (fun k => (Value.slice A66 ((gq S (j : Int)).2.1.take (leftS S keep j).toNat).length c66).ownBlock = some k) k ∨ k = b69) k) k → w0.heap.size ≤ k := by
                rintro k (h | h | h)
                · exact hq0_1 k h
                · exact (hb66_ k h).resolve_left id
                · subst h; exact hb69_.resolve_left id
              refine r_take 17 hF rfl rfl rfl (by kernel_rfl) (by kernel_rfl) (by kernel_rfl) (fun _ _ _ h => h) rfl hS (fun w hS => x_nil (hF.tmp 54 rfl)) rfl ?_; clear hF; intro a hF
              refine r_take 18 hF rfl rfl rfl (by kernel_rfl) (by kernel_rfl) (by kernel_rfl) (fun _ _ _ h => h) rfl hS (fun w hS => x_faddr Try.underlying61 rfl ty59 (by decide) (hF.tmp 71 rfl) rfl) rfl ?_; clear hF; intro a hF
              refine r_do 19 rfl (by kernel_rfl) rfl rfl ?_
              refine w_store 5 hH ty59 rfl (hF.tmp 72 rfl) (hF.tmp 70 rfl) rfl (one1 rfl rfl) (by first | decide | exact Nat.le_of_ble_eq_true rfl) ?_
              clear hH; intro w hH
              clear hS; have hS : SL _ _ := SL.of hH (sub_cons (sub_cons (sub_nil _) 1001 rfl) 7 rfl); refine ⟨hS, ?_⟩
              refine r_end (by kernel_rfl) ?_; clear hS
              refine hK7 _ _ ?_
              refine wp_region_lit ?_
              refine l_at hF rfl rfl rfl (x_move (hF.tmp 6 rfl)) ?_; clear hF; intro a hF
              refine l_at hF rfl rfl rfl (x_add (hF.tmp 24 rfl) rfl (w64 (by omega) (by omega))) ?_; clear hF; intro a hF
              refine l_at hF rfl rfl rfl (x_assign (hF.tmp 25 rfl)) ?_; clear hF; intro a hF
              refine wpList_nil ?_
              exact ⟨_, by omega, ⟨j + 1, A70, c70, _, rfl, by omega, hok70, ((((hF.bare.add hF 6 rfl).add hF 5 rfl).add hF 1 rfl).add hF 0 rfl), hH.sub _ (sub_cons (sub_cons (sub_cons (sub_cons (sub_cons (sub_cons (sub_cons (sub_nil _) 55 rfl) 5 rfl) 9 rfl) 902 rfl) 3 rfl) 2 rfl) 1 rfl)⟩⟩
            ·
              refine w_append 61 1001 (xs := ([])) (ys := (((gq S (j : Int)).2.1).take ((leftS S keep j).toNat))) hF hH rfl Try.underlying42 ty5 rfl rfl rfl rfl ((Rd.take ((hH.rd 1001 rfl)) ((leftS S keep j).toNat))) (by intro k_ hk_; exact .inr hk_) (hF.tmp 61 rfl) (hF.tmp 65 rfl) (by simp only [List.length_nil, List.length_take]; omega) (by simp only [List.length_nil, List.length_take, maxLen]; omega) (fun _ => False) (fun w' v' h => row_flat h _) (fun k_ hk_ => hk_.elim) ?_
              clear hF hH; intro a w v66 hF hH
              clear hS; have hS : SL _ _ := SL.of hH (sub_cons (sub_cons (sub_nil _) 1001 rfl) 7 rfl); refine ⟨hS, ?_⟩
              rw [List.nil_append] at hH
              obtain ⟨A66, c66, rfl⟩ := (hH.row 61 rfl).form
              have hb66_ : ∀ k, (Value.slice A66 ((gq S (j : Int)).2.1.take (leftS S keep j).toNat).length c66).ownBlock = some k → _ := hH.mine 61 _ rfl
              have hH := hH.freeze 61 rfl (fun k => (Value.slice A66 ((gq S (j : Int)).2.1.take (leftS S keep j).toNat).length c66).ownBlock = some k) (fun k => ⟨fun h => .inr h, fun h => h.resolve_left id⟩)
              refine r_take 14 hF rfl rfl rfl (by kernel_rfl) (by kernel_rfl) (by kernel_rfl) (fun _ _ _ h => h) rfl hS (fun w hS => x_buildS (cells := #[.int .i64 (gq S (j : Int)).1, .slice A66 ((gq S (j : Int)).2.1.take (leftS S keep j).toNat).length c66, .int .i64 (leftS S keep j)]) (places := #[(0, 1), (1, 1), (2, 1)]) Try.underlying115 ty115 (by kernel_rfl) (by simp only [List.map_toArray, List.map_cons, List.map_nil, hF.tmp 60 rfl, hF.tmp 66 rfl, hF.tmp 67 rfl] <;> rfl) rfl) rfl ?_; clear hF; intro a hF
              refine r_do2 4 15 rfl rfl (by kernel_rfl) rfl rfl rfl rfl ?_ ?_
              ·
                refine w_at hF (x_load1 ty59 (hF.tmp 57 rfl) (blk_cell (hH.at 5 rfl) 0 rfl)) rfl rfl ?_
                clear hF; intro a hF
                clear hS; have hS : SL _ _ := SL.of hH (sub_cons (sub_cons (sub_nil _) 1001 rfl) 7 rfl); refine ⟨hS, ?_⟩
                refine r_do 15 rfl (by kernel_rfl) rfl rfl ?_
                refine w_lit1 69 SgE ((gq S (j : Int)).1, (((gq S (j : Int)).2.1.take (leftS S keep j).toNat), (leftS S keep j))) #[.int .i64 (gq S (j : Int)).1, .slice A66 ((gq S (j : Int)).2.1.take (leftS S keep j).toNat).length c66, .int .i64 (leftS S keep j)] (fun k => (Value.slice A66 ((gq S (j : Int)).2.1.take (leftS S keep j).toNat).length c66).ownBlock = some k) hF hH rfl Try.underlying59 ty115 (by simp only [List.map_toArray, List.map_cons, List.map_nil, hF.tmp 68 rfl] <;> rfl) (by decide) (by kernel_rfl) (sg_mk (x := ((gq S (j : Int)).1, (((gq S (j : Int)).2.1.take (leftS S keep j).toNat), (leftS S keep j)))) (hH.rd 61 rfl)) (fun k hk => ⟨61, _, rfl, hk⟩) ?_
                clear hF hH; intro a w b69 hF hb69_ hH
                clear hS; have hS : SL _ _ := SL.of hH (sub_cons (sub_cons (sub_nil _) 1001 rfl) 7 rfl); refine ⟨hS, ?_⟩
                refine r_do 16 rfl (by kernel_rfl) rfl rfl ?_
                refine w_append 55 69 (xs := (powS S keep j)) (ys := ([((gq S (j : Int)).1, (((gq S (j : Int)).2.1.take (leftS S keep j).toNat), (leftS S keep j)))])) hF hH rfl Try.underlying59 ty115 rfl rfl rfl rfl ((hH.rd 69 rfl)) (by intro k_ hk_; exact .inr hk_) (hF.tmp 58 rfl) (hF.tmp 69 rfl) (by have := pow_len S keep (j := j) (by omega); simp only [List.length_cons, List.length_nil]; omega) (by have := pow_len S keep (j := j) (by omega); simp only [List.length_cons, List.length_nil, maxLen]; omega) (fun k => okv k ∨ (fun k => (fun k => (Value.slice A66 ((gq S (j : Int)).2.1.take (leftS S keep j).toNat).length c66).ownBlock = some k) k ∨ k = b69) k) (fun w' v' h => h) (by rintro k_ (hk_ | hk_); exact .inl hk_; exact .inr hk_) ?_
                clear hF hH; intro a w v70 hF hH
                clear hS; have hS : SL _ _ := SL.of hH (sub_cons (sub_cons (sub_nil _) 1001 rfl) 7 rfl); refine ⟨hS, ?_⟩
                rw [pow_some hSrt.keys (by omega) hc53] at hH
                obtain ⟨A70, c70, rfl⟩ := (hH.row 55 rfl).form
                have hok70 : ∀ k, (fun k => okv k ∨ (fun k => (fun k => (Value.slice A66 ((gq S (j : Int)).2.1.take (leftS S keep j).toNat).length c66).ownBlock = some k) k ∨ k = b69) k) k → w0.heap.size ≤ k := by
                  rintro k (h | h | h)
                  · exact hq0_1 k h
                  · exact (hb66_ k h).resolve_left id
                  · subst h; exact hb69_.resolve_left id
                refine r_take 17 hF rfl rfl rfl (by kernel_rfl) (by kernel_rfl) (by kernel_rfl) (fun _ _ _ h => h) rfl hS (fun w hS => x_nil (hF.tmp 54 rfl)) rfl ?_; clear hF; intro a hF
                refine r_take 18 hF rfl rfl rfl (by kernel_rfl) (by kernel_rfl) (by kernel_rfl) (fun _ _ _ h => h) rfl hS (fun w hS => x_faddr Try.underlying61 rfl ty59 (by decide) (hF.tmp 71 rfl) rfl) rfl ?_; clear hF; intro a hF
                refine r_do 19 rfl (by kernel_rfl) rfl rfl ?_
                refine w_store 5 hH ty59 rfl (hF.tmp 72 rfl) (hF.tmp 70 rfl) rfl (one1 rfl rfl) (by first | decide | exact Nat.le_of_ble_eq_true rfl) ?_
                clear hH; intro w hH
                clear hS; have hS : SL _ _ := SL.of hH (sub_cons (sub_cons (sub_nil _) 1001 rfl) 7 rfl); refine ⟨hS, ?_⟩
                refine r_end (by kernel_rfl) ?_; clear hS
                refine hK7 _ _ ?_
                refine wp_region_lit ?_
                refine l_at hF rfl rfl rfl (x_move (hF.tmp 6 rfl)) ?_; clear hF; intro a hF
                refine l_at hF rfl rfl rfl (x_add (hF.tmp 24 rfl) rfl (w64 (by omega) (by omega))) ?_; clear hF; intro a hF
                refine l_at hF rfl rfl rfl (x_assign (hF.tmp 25 rfl)) ?_; clear hF; intro a hF
                refine wpList_nil ?_
                exact ⟨_, by omega, ⟨j + 1, A70, c70, _, rfl, by omega, hok70, ((((hF.bare.add hF 6 rfl).add hF 5 rfl).add hF 1 rfl).add hF 0 rfl), hH.sub _ (sub_cons (sub_cons (sub_cons (sub_cons (sub_cons (sub_cons (sub_cons (sub_nil _) 55 rfl) 5 rfl) 9 rfl) 902 rfl) 3 rfl) 2 rfl) 1 rfl)⟩⟩
              ·
                refine w_lit1 69 SgE ((gq S (j : Int)).1, (((gq S (j : Int)).2.1.take (leftS S keep j).toNat), (leftS S keep j))) #[.int .i64 (gq S (j : Int)).1, .slice A66 ((gq S (j : Int)).2.1.take (leftS S keep j).toNat).length c66, .int .i64 (leftS S keep j)] (fun k => (Value.slice A66 ((gq S (j : Int)).2.1.take (leftS S keep j).toNat).length c66).ownBlock = some k) hF hH rfl Try.underlying59 ty115 (by simp only [List.map_toArray, List.map_cons, List.map_nil, hF.tmp 68 rfl] <;> rfl) (by decide) (by kernel_rfl) (sg_mk (x := ((gq S (j : Int)).1, (((gq S (j : Int)).2.1.take (leftS S keep j).toNat), (leftS S keep j)))) (hH.rd 61 rfl)) (fun k hk => ⟨61, _, rfl, hk⟩) ?_
                clear hF hH; intro a w b69 hF hb69_ hH
                clear hS; have hS : SL _ _ := SL.of hH (sub_cons (sub_cons (sub_nil _) 1001 rfl) 7 rfl); refine ⟨hS, ?_⟩
                refine r_do 4 rfl (by kernel_rfl) rfl rfl ?_
                refine w_at hF (x_load1 ty59 (hF.tmp 57 rfl) (blk_cell (hH.at 5 rfl) 0 rfl)) rfl rfl ?_
                clear hF; intro a hF
                clear hS; have hS : SL _ _ := SL.of hH (sub_cons (sub_cons (sub_nil _) 1001 rfl) 7 rfl); refine ⟨hS, ?_⟩
                refine r_do 16 rfl (by kernel_rfl) rfl rfl ?_
                refine w_append 55 69 (xs := (powS S keep j)) (ys := ([((gq S (j : Int)).1, (((gq S (j : Int)).2.1.take (leftS S keep j).toNat), (leftS S keep j)))])) hF hH rfl Try.underlying59 ty115 rfl rfl rfl rfl ((hH.rd 69 rfl)) (by intro k_ hk_; exact .inr hk_) (hF.tmp 58 rfl) (hF.tmp 69 rfl) (by have := pow_len S keep (j := j) (by omega); simp only [List.length_cons, List.length_nil]; omega) (by have := pow_len S keep (j := j) (by omega); simp only [List.length_cons, List.length_nil, maxLen]; omega) (fun k => okv k ∨ (fun k => (fun k => (Value.slice A66 ((gq S (j : Int)).2.1.take (leftS S keep j).toNat).length c66).ownBlock = some k) k ∨ k = b69) k) (fun w' v' h => h) (by rintro k_ (hk_ | hk_); exact .inl hk_; exact .inr hk_) ?_
                clear hF hH; intro a w v70 hF hH
                clear hS; have hS : SL _ _ := SL.of hH (sub_cons (sub_cons (sub_nil _) 1001 rfl) 7 rfl); refine ⟨hS, ?_⟩
                rw [pow_some hSrt.keys (by omega) hc53] at hH
                obtain ⟨A70, c70, rfl⟩ := (hH.row 55 rfl).form
                have hok70 : ∀ k, (fun k => okv k ∨ (fun k => (fun k => (Value.slice A66 ((gq S (j : Int)).2.1.take (leftS S keep j).toNat).length c66).ownBlock = some k) k ∨ k = b69) k) k → w0.heap.size ≤ k := by
                  rintro k (h | h | h)
                  · exact hq0_1 k h
                  · exact (hb66_ k h).resolve_left id
                  · subst h; exact hb69_.resolve_left id
                refine r_take 17 hF rfl rfl rfl (by kernel_rfl) (by kernel_rfl) (by kernel_rfl) (fun _ _ _ h => h) rfl hS (fun w hS => x_nil (hF.tmp 54 rfl)) rfl ?_; clear hF; intro a hF
                refine r_take 18 hF rfl rfl rfl (by kernel_rfl) (by kernel_rfl) (by kernel_rfl) (fun _ _ _ h => h) rfl hS (fun w hS => x_faddr Try.underlying61 rfl ty59 (by decide) (hF.tmp 71 rfl) rfl) rfl ?_; clear hF; intro a hF
                refine r_do 19 rfl (by kernel_rfl) rfl rfl ?_
                refine w_store 5 hH ty59 rfl (hF.tmp 72 rfl) (hF.tmp 70 rfl) rfl (one1 rfl rfl) (by first | decide | exact Nat.le_of_ble_eq_true rfl) ?_
                clear hH; intro w hH
                clear hS; have hS : SL _ _ := SL.of hH (sub_cons (sub_cons (sub_nil _) 1001 rfl) 7 rfl); refine ⟨hS, ?_⟩
                refine r_end (by kernel_rfl) ?_; clear hS
                refine hK7 _ _ ?_
                refine wp_region_lit ?_
                refine l_at hF rfl rfl rfl (x_move (hF.tmp 6 rfl)) ?_; clear hF; intro a hF
                refine l_at hF rfl rfl rfl (x_add (hF.tmp 24 rfl) rfl (w64 (by omega) (by omega))) ?_; clear hF; intro a hF
                refine l_at hF rfl rfl rfl (x_assign (hF.tmp 25 rfl)) ?_; clear hF; intro a hF
                refine wpList_nil ?_
                exact ⟨_, by omega, ⟨j + 1, A70, c70, _, rfl, by omega, hok70, ((((hF.bare.add hF 6 rfl).add hF 5 rfl).add hF 1 rfl).add hF 0 rfl), hH.sub _ (sub_cons (sub_cons (sub_cons (sub_cons (sub_cons (sub_cons (sub_cons (sub_nil _) 55 rfl) 5 rfl) 9 rfl) 902 rfl) 3 rfl) 2 rfl) 1 rfl)⟩⟩
        · try simp only [Bool.or_eq_true, Bool.and_eq_true, Bool.or_eq_false_iff, Bool.and_eq_false_iff, Bool.not_eq_true', Bool.not_eq_false', decide_eq_true_eq, decide_eq_false_iff_not, Bool.not_true, Bool.not_false] at hc53
          rw [pow_none hSrt.keys (by omega) hc53] at hH
          refine wp_skip ?_
          refine hK7 _ _ ?_
          refine wp_region_lit ?_
          refine l_at hF rfl rfl rfl (x_move (hF.tmp 6 rfl)) ?_; clear hF; intro a hF
          refine l_at hF rfl rfl rfl (x_add (hF.tmp 24 rfl) rfl (w64 (by omega) (by omega))) ?_; clear hF; intro a hF
          refine l_at hF rfl rfl rfl (x_assign (hF.tmp 25 rfl)) ?_; clear hF; intro a hF
          refine wpList_nil ?_
          exact ⟨_, by omega, ⟨j + 1, A_, c_, _, rfl, by omega, hq0_1, ((((hF.bare.add hF 6 rfl).add hF 5 rfl).add hF 1 rfl).add hF 0 rfl), hH.sub _ (sub_cons (sub_cons (sub_cons (sub_cons (sub_cons (sub_cons (sub_cons (sub_nil _) 55 rfl) 5 rfl) 9 rfl) 902 rfl) 3 rfl) 2 rfl) 1 rfl)⟩⟩
      refine wp_cond_split (hF.tmp 38 rfl) (fun hc38 => ?_) (fun hc38 => ?_)
      · try simp only [Bool.or_eq_true, Bool.and_eq_true, Bool.or_eq_false_iff, Bool.and_eq_false_iff, Bool.not_eq_true', Bool.not_eq_false', decide_eq_true_eq, decide_eq_false_iff_not, Bool.not_true, Bool.not_false] at hc38
        refine r_start [(902, .rd_ (.int .i64) Ak keep ck (fun k => k < w0.heap.size)), (7, .blk b7 (.cells #[.int .i64 (gq S (j : Int)).1, .slice fA1 (gq S (j : Int)).2.1.length fc1, .int .i64 (gq S (j : Int)).2.2] 115 (0, 0))), (1001, .rd_ (.int .u8) (fA1) (gq S (j : Int)).2.1 fc1 oks)] (by kernel_rfl) hH fun hH => ?_
        have hS : SL [(902, .rd_ (.int .i64) Ak keep ck (fun k => k < w0.heap.size)), (7, .blk b7 (.cells #[.int .i64 (gq S (j : Int)).1, .slice fA1 (gq S (j : Int)).2.1.length fc1, .int .i64 (gq S (j : Int)).2.2] 115 (0, 0))), (1001, .rd_ (.int .u8) (fA1) (gq S (j : Int)).2.1 fc1 oks)] _ := SL.of hH (sub_cons (sub_cons (sub_cons (sub_nil _) 1001 rfl) 7 rfl) 902 rfl)
        refine r_take 0 hF rfl rfl rfl (by kernel_rfl) (by kernel_rfl) (by kernel_rfl) (fun _ _ _ h => h) rfl hS (fun w hS => x_move (hF.tmp 8 rfl)) rfl ?_; clear hF; intro a hF
        refine r_take 1 hF rfl rfl rfl (by kernel_rfl) (by kernel_rfl) (by kernel_rfl) (fun _ _ _ h => h) rfl hS (fun w hS => x_move (hF.tmp 1 rfl)) rfl ?_; clear hF; intro a hF
        refine r_take 2 hF rfl rfl rfl (by kernel_rfl) (by kernel_rfl) (by kernel_rfl) (fun _ _ _ h => h) rfl hS (fun w hS => x_move (hF.tmp 6 rfl)) rfl ?_; clear hF; intro a hF
        refine r_take 3 hF rfl rfl rfl (by kernel_rfl) (by kernel_rfl) (by kernel_rfl) (fun _ _ _ h => h) rfl hS (fun w hS => x_iaddr_A Try.underlying32 ty3 ((hH.rd 902 rfl)) (hF.tmp 40 rfl) (hF.tmp 41 rfl) (by omega) (by omega) _) rfl ?_; clear hF; intro a hF
        refine r_take 4 hF rfl rfl rfl (by kernel_rfl) (by kernel_rfl) (by kernel_rfl) (fun _ _ _ h => h) rfl hS (fun w hS => x_load1 ty3 (hF.tmp 42 rfl) (((SL.rd hS 902 rfl)).cellA (gi_some (i := (j : Int)) (by omega) (by omega)))) rfl ?_; clear hF; intro a hF
        refine r_take 5 hF rfl rfl rfl (by kernel_rfl) (by kernel_rfl) (by kernel_rfl) (fun _ _ _ h => h) rfl hS (fun w hS => x_faddr Try.underlying115 rfl ty42 (by decide) (hF.tmp 7 rfl) rfl) rfl ?_; clear hF; intro a hF
        refine r_take 6 hF rfl rfl rfl (by kernel_rfl) (by kernel_rfl) (by kernel_rfl) (fun _ _ _ h => h) rfl hS (fun w hS => x_load1 ty42 (hF.tmp 44 rfl) (blk_cell (SL.at_ hS 7 rfl) 1 rfl)) rfl ?_; clear hF; intro a hF
        refine r_take 7 hF rfl rfl rfl (by kernel_rfl) (by kernel_rfl) (by kernel_rfl) (fun _ _ _ h => h) rfl hS (fun w hS => x_len_slice Try.underlying42 (hF.tmp 45 rfl)) rfl ?_; clear hF; intro a hF
        refine r_take 8 hF rfl rfl rfl (by kernel_rfl) (by kernel_rfl) (by kernel_rfl) (fun _ _ _ h => h) rfl hS (fun w hS => x_move (hF.tmp 8 rfl)) rfl ?_; clear hF; intro a hF
        refine r_take 9 hF rfl rfl rfl (by kernel_rfl) (by kernel_rfl) (by kernel_rfl) (fun _ _ _ h => h) rfl hS (fun w hS => x_sub (hF.tmp 46 rfl) (hF.tmp 47 rfl) (w64 (by omega) (by omega))) rfl ?_; clear hF; intro a hF
        refine r_take 10 hF rfl rfl rfl (by kernel_rfl) (by kernel_rfl) (by kernel_rfl) (fun _ _ _ h => h) rfl hS (fun w hS => x_add (hF.tmp 48 rfl) rfl (w64 (by omega) (by omega))) rfl ?_; clear hF; intro a hF
        refine r_do 11 rfl (by kernel_rfl) rfl rfl ?_
        refine w_call hF (x_enter Try.func24 (by kernel_rfl) rfl (by simp only [List.map_toArray, List.map_cons, List.map_nil, hF.tmp 43 rfl, hF.tmp 49 rfl] <;> rfl)) (pick_calls _ (gi keep (j : Int)) (((((gq S (j : Int)).2.1).length : Int) - ((gq S (j : Int)).2.2)) + 1) (hkp _ (gi_mem (ks := keep) (k := j) (by omega))).1 (hkp _ (gi_mem (ks := keep) (k := j) (by omega))).2 (by omega)) rfl rfl ?_
        rintro _ w ⟨rfl, hm_⟩; refine ⟨_, rfl, ?_⟩; clear hF; intro a hF; have hH := hH.same hm_
        clear hS; have hS : SL _ _ := SL.of hH (sub_cons (sub_cons (sub_cons (sub_nil _) 1001 rfl) 7 rfl) 902 rfl); refine ⟨hS, ?_⟩
        have hrr := rnd_range (c := gi keep (j : Int)) (n := ((gq S (j : Int)).2.1.length : Int) - (gq S (j : Int)).2.2 + 1) (by omega)
        refine r_take 12 hF rfl rfl rfl (by kernel_rfl) (by kernel_rfl) (by kernel_rfl) (fun _ _ _ h => h) rfl hS (fun w hS => x_add (hF.tmp 39 rfl) (hF.tmp 50 rfl) (w64 (by omega) (by omega))) rfl ?_; clear hF; intro a hF
        refine r_take 13 hF rfl rfl rfl (by kernel_rfl) (by kernel_rfl) (by kernel_rfl) (fun _ _ _ h => h) rfl hS (fun w hS => x_assign (hF.tmp 51 rfl)) rfl ?_; clear hF; intro a hF
        rw [left_yes hc38] at hF
        refine r_end (by kernel_rfl) ?_; clear hS
        exact hJ38 _ _  ((((((hF.bare.add hF 8 rfl).add hF 7 rfl).add hF 6 rfl).add hF 5 rfl).add hF 1 rfl).add hF 0 rfl) (hH.sub _ (sub_cons (sub_cons (sub_cons (sub_cons (sub_cons (sub_cons (sub_cons (sub_cons (sub_cons (sub_cons (sub_cons (sub_cons (sub_nil _) 7 rfl) 1502 rfl) 1501 rfl) 1500 rfl) 1001 rfl) 55 rfl) 5 rfl) 9 rfl) 902 rfl) 3 rfl) 2 rfl) 1 rfl))
      · try simp only [Bool.or_eq_true, Bool.and_eq_true, Bool.or_eq_false_iff, Bool.and_eq_false_iff, Bool.not_eq_true', Bool.not_eq_false', decide_eq_true_eq, decide_eq_false_iff_not, Bool.not_true, Bool.not_false] at hc38
        rw [left_no (keep := keep) hc38] at hF
        refine wp_skip ?_
        exact hJ38 _ _  ((((((hF.bare.add hF 8 rfl).add hF 7 rfl).add hF 6 rfl).add hF 5 rfl).add hF 1 rfl).add hF 0 rfl) (hH.sub _ (sub_cons (sub_cons (sub_cons (sub_cons (sub_cons (sub_cons (sub_cons (sub_cons (sub_cons (sub_cons (sub_cons (sub_cons (sub_nil _) 7 rfl) 1502 rfl) 1501 rfl) 1500 rfl) 1001 rfl) 55 rfl) 5 rfl) 9 rfl) 902 rfl) 3 rfl) 2 rfl) 1 rfl))
    · try simp only [Bool.or_eq_true, Bool.and_eq_true, Bool.or_eq_false_iff, Bool.and_eq_false_iff, Bool.not_eq_true', Bool.not_eq_false', decide_eq_true_eq, decide_eq_false_iff_not, Bool.not_true, Bool.not_false] at hc23
      obtain rfl : j = S.length := by omega
      refine wp_exit ?_
      refine hK3 _ _ ?_
      refine wp_seq_k fun khK13 hK13 => ?_
      refine wp_region_lit ?_
      refine l_at hF rfl rfl rfl (x_move (hF.tmp 5 rfl)) ?_; clear hF; intro a hF
      refine l_at hF rfl rfl rfl (x_assign (hF.tmp 73 rfl)) ?_; clear hF; intro a hF
      refine wpList_nil ?_
      refine hK13 _ _ ?_
      refine wp_ret ?_
      try simp only [Exit.then, Exit.inBlock]
      have hb55 : ∀ k, (Value.slice A_ (powS S keep S.length).length c_).ownBlock = some k → w0.heap.size ≤ k := fun k h => (hH.mine 55 _ rfl k h).resolve_left id
      have hH := hH.freeze 55 rfl (fun k => okv k ∨ (Value.slice A_ (powS S keep S.length).length c_).ownBlock = some k) (fun k => Iff.rfl)
      have hl := (Hp.ren hH (H' := [(1, .blk b16 (.cells #[.slice A_ (powS S keep S.length).length c_, .slice A14 rt.length c14] 61 (0, 0))), (2, .rd_ SgE A_ (powS S keep S.length) c_ (fun k => okv k ∨ (Value.slice A_ (powS S keep S.length).length c_).ownBlock = some k)), (3, .rd_ (.int .u8) A14 rt c14 (fun k => (Value.slice A14 rt.length c14).ownBlock = some k))]) (fun i => if i = 1 then 5 else if i = 5 then 1 else if i = 2 then 55 else if i = 55 then 2 else if i = 3 then 9 else if i = 9 then 3 else i) (by intro i j h; (repeat' split at h) <;> omega) (ren_cons rfl (ren_cons rfl (ren_cons rfl (ren_nil _ _)))))
      exact fin_ret hF (res1 hF rfl rfl) ⟨b16, _, rfl, ⟨_, _, _, _, _, _, rfl⟩, hl.okAll, hl.mods, own_cons (fun k hk => (hl.mine 1 _ rfl k hk).resolve_left id) (own_cons (fun k hk => hk.elim) (own_cons (fun k hk => hk.elim) own_nil)), rdin_cons (fun k h => h.elim) (rdin_cons (fun k h => h.elim (hq0_1 k) (hb55 k)) (rdin_cons (fun k h => hb14n k h) rdin_nil))⟩

set_option maxRecDepth 100000 in
set_option maxHeartbeats 1000000 in
theorem rsame_calls (w0 : World) {ok ok2 : Nat → Prop} {Al As : Option Addr} {ks : List Int} {S : DM} {cl cs : Nat} (hrl : Rd (.int .i64) w0 ok Al ks cl) (hrs : Rd SgE w0 ok2 As S cs) (hks : ks = S.map (·.1)) : Calls Try.prog 71 #[.slice Al ks.length cl, .slice As S.length cs] w0 fun e w' => e = .returned (.bool true) ∧ Mods (fun _ => False) w0 w' := by
  refine calls_of_wp Try.func71 rfl ?_
  have hF := Fr.enter #[.slice Al ks.length cl, .slice As S.length cs] 27 (slotsOf [.slice Al ks.length cl, .slice As S.length cs] 0) (Nat.le_of_ble_eq_true rfl) (fun i v h => by have h2 := (get_slotsOf _ 0 i v h).2; simpa only [List.getElem?_toArray, Nat.sub_zero] using h2)
  have hH := Hp.nil (fun _ => False) w0
  rw [Try.ntmps71]
  revert hF; generalize (⟨(#[.slice Al ks.length cl, .slice As S.length cs] : Array Value) ++ Array.replicate (27 - (#[.slice Al ks.length cl, .slice As S.length cs] : Array Value).size) undef, []⟩ : Act) = a; intro hF
  have hH := hH.arg 901 hrl.all (fun _ h => ⟨h, fun h => h⟩)
  have hle901 := hrl.le; unfold maxLen at hle901
  have hH := hH.arg 902 hrs.all (fun _ h => ⟨h, fun h => h⟩)
  have hle902 := hrs.le; unfold maxLen at hle902
  refine wp_seq_k fun khK1 hK1 => ?_
  refine wp_region_lit ?_
  refine l_at hF rfl rfl rfl (x_assign rfl) ?_; clear hF; intro a hF
  refine wpList_nil ?_
  refine hK1 _ _ ?_
  refine wp_seq_k fun khK2 hK2 => ?_
  refine wp_seq_k fun khK3 hK3 => ?_
  refine wp_region_lit ?_
  refine l_at hF rfl rfl rfl (x_move (hF.tmp 0 rfl)) ?_; clear hF; intro a hF
  refine l_at hF rfl rfl rfl (x_len_slice Try.underlying32 (hF.tmp 6 rfl)) ?_; clear hF; intro a hF
  refine l_at hF rfl rfl rfl (x_move (hF.tmp 1 rfl)) ?_; clear hF; intro a hF
  refine l_at hF rfl rfl rfl (x_len_slice Try.underlying59 (hF.tmp 8 rfl)) ?_; clear hF; intro a hF
  refine l_at hF rfl rfl rfl (x_neq (hF.tmp 7 rfl) (hF.tmp 9 rfl)) ?_; clear hF; intro a hF
  rw [show (!decide ((ks.length : Int) = (S.length : Int))) = false by rw [hks, List.length_map, decide_eq_true rfl]; rfl] at hF
  refine wpList_nil ?_
  refine hK3 _ _ ?_
  refine wp_cond_false (hF.tmp 10 rfl) ?_
  refine wp_skip ?_
  refine hK2 _ _ ?_
  refine wp_seq_k fun khK4 hK4 => ?_
  refine wp_seq_k fun khK5 hK5 => ?_
  refine wp_region_lit ?_
  refine l_at hF rfl rfl rfl (x_assign rfl) ?_; clear hF; intro a hF
  refine wpList_nil ?_
  refine hK5 _ _ ?_
  refine wp_block ?_
  refine wp_loop_ghost (fun n_ a w => ∃ j : Nat, n_ = ks.length - j ∧ (j ≤ ks.length) ∧ Fr 27 a [(0, .slice Al ks.length cl), (1, .slice As S.length cs), (5, .int .i64 (j : Int))] ∧ Hp (fun _ => False) w0 w [(901, .rd_ (.int .i64) Al ks cl (fun k => k < w0.heap.size)), (902, .rd_ SgE As S cs (fun k => k < w0.heap.size))]) (ks.length) ?_ ?_
  · exact ⟨0, rfl, by omega, (((hF.bare.add hF 5 rfl).add hF 1 rfl).add hF 0 rfl), hH.sub _ (sub_cons (sub_cons (sub_nil _) 902 rfl) 901 rfl)⟩
  · rintro _ a w ⟨j, rfl, hq0_0, hF, hH⟩
    refine wp_seq_k fun khK6 hK6 => ?_
    refine wp_seq_k fun khK7 hK7 => ?_
    refine wp_region_lit ?_
    refine l_at hF rfl rfl rfl (x_move (hF.tmp 5 rfl)) ?_; clear hF; intro a hF
    refine l_at hF rfl rfl rfl (x_move (hF.tmp 0 rfl)) ?_; clear hF; intro a hF
    refine l_at hF rfl rfl rfl (x_len_slice Try.underlying32 (hF.tmp 12 rfl)) ?_; clear hF; intro a hF
    refine l_at hF rfl rfl rfl (x_lss (hF.tmp 11 rfl) (hF.tmp 13 rfl)) ?_; clear hF; intro a hF
    refine wpList_nil ?_
    refine hK7 _ _ ?_
    refine wp_cond_split (hF.tmp 14 rfl) (fun hc14 => ?_) (fun hc14 => ?_)
    · try simp only [Bool.or_eq_true, Bool.and_eq_true, Bool.or_eq_false_iff, Bool.and_eq_false_iff, Bool.not_eq_true', Bool.not_eq_false', decide_eq_true_eq, decide_eq_false_iff_not, Bool.not_true, Bool.not_false] at hc14
      have hjS : j < S.length := by rw [hks, List.length_map] at hc14; omega
      obtain ⟨fA1, fc1, hfr1, hf1_0, hf1_1, hf1_2, hfw1⟩ := rd_sg ((hH.rd 902 rfl)) (gq_some (xs := S) (i := (j : Int)) (by omega) (by omega))
      have hH := hH.subrd 902 rfl 1001 hfr1 (fun _ h => h)
      have hH := hH.subcel 902 rfl 1500 hf1_0 (Rd.inok ((hH.rd 902 rfl)) (by omega) _)
      have hH := hH.subcel 902 rfl 1501 hf1_1 (Rd.inok ((hH.rd 902 rfl)) (by omega) _)
      have hH := hH.subcel 902 rfl 1502 hf1_2 (Rd.inok ((hH.rd 902 rfl)) (by omega) _)
      refine wp_skip ?_
      refine hK6 _ _ ?_
      refine wp_seq_k fun khK8 hK8 => ?_
      refine wp_block ?_
      refine wp_seq_k fun khK9 hK9 => ?_
      refine r_start [(901, .rd_ (.int .i64) Al ks cl (fun k => k < w0.heap.size)), (902, .rd_ SgE As S cs (fun k => k < w0.heap.size)), (1500, .cel (adr As ((j : Int).toNat * 3)) (.int .i64 (gq S (j : Int)).1))] (by kernel_rfl) hH fun hH => ?_
      have hS : SL [(901, .rd_ (.int .i64) Al ks cl (fun k => k < w0.heap.size)), (902, .rd_ SgE As S cs (fun k => k < w0.heap.size)), (1500, .cel (adr As ((j : Int).toNat * 3)) (.int .i64 (gq S (j : Int)).1))] _ := SL.of hH (sub_cons (sub_cons (sub_cons (sub_nil _) 1500 rfl) 902 rfl) 901 rfl)
      refine r_take 0 hF rfl rfl rfl (by kernel_rfl) (by kernel_rfl) (by kernel_rfl) (fun _ _ _ h => h) rfl hS (fun w hS => x_move (hF.tmp 0 rfl)) rfl ?_; clear hF; intro a hF
      refine r_take 1 hF rfl rfl rfl (by kernel_rfl) (by kernel_rfl) (by kernel_rfl) (fun _ _ _ h => h) rfl hS (fun w hS => x_move (hF.tmp 5 rfl)) rfl ?_; clear hF; intro a hF
      refine r_take 2 hF rfl rfl rfl (by kernel_rfl) (by kernel_rfl) (by kernel_rfl) (fun _ _ _ h => h) rfl hS (fun w hS => x_iaddr_A Try.underlying32 ty3 ((hH.rd 901 rfl)) (hF.tmp 17 rfl) (hF.tmp 18 rfl) (by omega) (by omega) _) rfl ?_; clear hF; intro a hF
      refine r_take 3 hF rfl rfl rfl (by kernel_rfl) (by kernel_rfl) (by kernel_rfl) (fun _ _ _ h => h) rfl hS (fun w hS => x_load1 ty3 (hF.tmp 19 rfl) (((SL.rd hS 901 rfl)).cellA (gi_some (i := (j : Int)) (by omega) (by omega)))) rfl ?_; clear hF; intro a hF
      refine r_take 4 hF rfl rfl rfl (by kernel_rfl) (by kernel_rfl) (by kernel_rfl) (fun _ _ _ h => h) rfl hS (fun w hS => x_move (hF.tmp 1 rfl)) rfl ?_; clear hF; intro a hF
      refine r_take 5 hF rfl rfl rfl (by kernel_rfl) (by kernel_rfl) (by kernel_rfl) (fun _ _ _ h => h) rfl hS (fun w hS => x_move (hF.tmp 5 rfl)) rfl ?_; clear hF; intro a hF
      refine r_take 6 hF rfl rfl rfl (by kernel_rfl) (by kernel_rfl) (by kernel_rfl) (fun _ _ _ h => h) rfl hS (fun w hS => x_iaddr_A Try.underlying59 ty115 ((hH.rd 902 rfl)) (hF.tmp 21 rfl) (hF.tmp 22 rfl) (by omega) (by omega) _) rfl ?_; clear hF; intro a hF
      refine r_take 7 hF rfl rfl rfl (by kernel_rfl) (by kernel_rfl) (by kernel_rfl) (fun _ _ _ h => h) rfl hS (fun w hS => x_faddrA ((SL.rd hS 902 rfl)) (by omega) _ Try.underlying115 rfl ty3 (by decide) (hF.tmp 23 rfl) rfl) rfl ?_; clear hF; intro a hF
      refine r_take 8 hF rfl rfl rfl (by kernel_rfl) (by kernel_rfl) (by kernel_rfl) (fun _ _ _ h => h) rfl hS (fun w hS => x_load1 ty3 (hF.tmp 24 rfl) (hS 1500 _ rfl)) rfl ?_; clear hF; intro a hF
      refine r_take 9 hF rfl rfl rfl (by kernel_rfl) (by kernel_rfl) (by kernel_rfl) (fun _ _ _ h => h) rfl hS (fun w hS => x_neq (hF.tmp 20 rfl) (hF.tmp 25 rfl)) rfl ?_; clear hF; intro a hF
      rw [show (!decide (gi ks (j : Int) = (gq S (j : Int)).1)) = false by rw [hks, key_gq (by omega), decide_eq_true rfl]; rfl] at hF
      refine r_end (by kernel_rfl) ?_; clear hS
      refine hK9 _ _ ?_
      refine wp_cond_false (hF.tmp 26 rfl) ?_
      refine wp_skip ?_
      refine hK8 _ _ ?_
      refine wp_region_lit ?_
      refine l_at hF rfl rfl rfl (x_move (hF.tmp 5 rfl)) ?_; clear hF; intro a hF
      refine l_at hF rfl rfl rfl (x_add (hF.tmp 15 rfl) rfl (w64 (by omega) (by omega))) ?_; clear hF; intro a hF
      refine l_at hF rfl rfl rfl (x_assign (hF.tmp 16 rfl)) ?_; clear hF; intro a hF
      refine wpList_nil ?_
      exact ⟨_, by omega, ⟨j + 1, rfl, by omega, (((hF.bare.add hF 5 rfl).add hF 1 rfl).add hF 0 rfl), hH.sub _ (sub_cons (sub_cons (sub_nil _) 902 rfl) 901 rfl)⟩⟩
    · try simp only [Bool.or_eq_true, Bool.and_eq_true, Bool.or_eq_false_iff, Bool.and_eq_false_iff, Bool.not_eq_true', Bool.not_eq_false', decide_eq_true_eq, decide_eq_false_iff_not, Bool.not_true, Bool.not_false] at hc14
      refine wp_exit ?_
      refine hK4 _ _ ?_
      refine wp_seq_k fun khK10 hK10 => ?_
      refine wp_region_lit ?_
      refine l_at hF rfl rfl rfl (x_assign rfl) ?_; clear hF; intro a hF
      refine wpList_nil ?_
      refine hK10 _ _ ?_
      refine wp_ret ?_
      try simp only [Exit.then, Exit.inBlock]
      exact fin_ret hF (res1 hF rfl rfl) ⟨rfl, hH.mods⟩

end Go.Proofs.Ytkocinnoncacgaa.Dsk
