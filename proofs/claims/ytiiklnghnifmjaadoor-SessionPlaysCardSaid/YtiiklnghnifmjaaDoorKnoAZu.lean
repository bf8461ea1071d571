/- The document's table, walked. -/
import Derived.Test.YtiiklnghnifmjaaDoorTabAZu
import Derived.Test.YtiiklnghnifmjaaDoorRefAZu
import Derived.Test.YtiiklnghnifmjaaDoorKnoDZu
set_option linter.unusedVariables false
set_option linter.unusedSimpArgs false
namespace Go.Proofs.YtiiklnghnifmjaaDoor.Act
open Go.RowKit Go.Proofs.YtiiklnghnifmjaaDoor.Sx Go.Proofs.YtiiklnghnifmjaaDoor.Cod Go.Proofs.YtiiklnghnifmjaaDoor.Num
theorem ty76 : TyI Tryd.prog 76 (.slice none 0 0) 1 24 false := ⟨by kernel_rfl, _, Tryd.underlying76, rfl⟩
theorem ty78 : TyI Tryd.prog 78 (.agg #[.slice none 0 0]) 1 24 true := ⟨by kernel_rfl, _, Tryd.underlying78, rfl⟩
theorem ty87 : TyI Tryd.prog 87 (.agg #[.string (strOfNums []), .int .i64 0, .bool false, .int .i64 0, .int .i64 0, .slice none 0 0]) 6 72 true := ⟨by kernel_rfl, _, Tryd.underlying87, rfl⟩
set_option maxRecDepth 100000 in
set_option maxHeartbeats 1000000 in
theorem told_calls (w0 : World) {r : SReqD} {okr0 : Nat → Prop} {Ar0 : Option Addr} {cr0 : Nat} (hrr0 : Rd OpdE w0 okr0 Ar0 r.ops cr0) : Calls Tryd.prog 33 #[.agg #[.string (strOfNums r.client), .int .i64 r.num, .slice Ar0 r.ops.length cr0]] w0 fun e w' => e = .returned (.agg #[.string (strOfNums r.client), .int .i64 r.num, .slice Ar0 r.ops.length cr0]) ∧ Mods (fun _ => False) w0 w' := by
 refine calls_of_wp Tryd.func33 rfl ?_
 have hF := Fr.enter #[.agg #[.string (strOfNums r.client), .int .i64 r.num, .slice Ar0 r.ops.length cr0]] 10 (slotsOf [.agg #[.string (strOfNums r.client), .int .i64 r.num, .slice Ar0 r.ops.length cr0]] 0) (Nat.le_of_ble_eq_true rfl) (fun i v h => by have h2 := (get_slotsOf _ 0 i v h).2; simpa only [List.getElem?_toArray, Nat.sub_zero] using h2)
 have hH := Hp.nil (fun _ => False) w0
 rw [Tryd.ntmps33]
 revert hF; generalize (⟨(#[.agg #[.string (strOfNums r.client), .int .i64 r.num, .slice Ar0 r.ops.length cr0]] : Array Value) ++ Array.replicate (10 - (#[.agg #[.string (strOfNums r.client), .int .i64 r.num, .slice Ar0 r.ops.length cr0]] : Array Value).size) undef, []⟩ : Act) = a; intro hF
 have hH := hH.arg 900 hrr0.all (fun _ h => ⟨h, fun h => h⟩)
 have hler0 := hrr0.le; unfold maxLen at hler0
 refine wp_seq_k fun khK1 hK1 => ?_
 refine wp_region_lit ?_
 refine wpList_plain rfl fun K hK => ?_
 refine w_box 1 hF hH rfl (hF.tmp 0 rfl) ?_
 clear hF hH; intro a w b1 hF hH
 refine hK _ _ ?_; clear hK K
 refine wpList_plain rfl fun K hK => ?_
 refine w_alloc 2 hF hH rfl ty81 ?_
 clear hF hH; intro a w b2 hF hH
 refine hK _ _ ?_; clear hK K
 refine wpList_nil ?_
 refine hK1 _ _ ?_
 refine wp_seq_k fun khK2 hK2 => ?_
 refine wp_region_lit ?_
 refine l_at hF rfl rfl rfl (x_faddr Tryd.underlying45 rfl ty9 (by decide) (hF.tmp 1 rfl) rfl) ?_; clear hF; intro a hF
 refine l_at hF rfl rfl rfl (x_load1 ty9 (hF.tmp 3 rfl) (blk_cell (hH.at 1 rfl) 0 rfl)) ?_; clear hF; intro a hF
 refine l_at hF rfl rfl rfl (x_faddr Tryd.underlying45 rfl ty3 (by decide) (hF.tmp 1 rfl) rfl) ?_; clear hF; intro a hF
 refine l_at hF rfl rfl rfl (x_load1 ty3 (hF.tmp 5 rfl) (blk_cell (hH.at 1 rfl) 1 rfl)) ?_; clear hF; intro a hF
 refine l_at hF rfl rfl rfl (x_faddr Tryd.underlying45 rfl ty43 (by decide) (hF.tmp 1 rfl) rfl) ?_; clear hF; intro a hF
 refine l_at hF rfl rfl rfl (x_load1 ty43 (hF.tmp 7 rfl) (blk_cell (hH.at 1 rfl) 2 rfl)) ?_; clear hF; intro a hF
 refine l_at hF rfl rfl rfl (x_buildS (cells := #[.string (strOfNums r.client), .int .i64 r.num, .slice Ar0 r.ops.length cr0]) (places := #[(0, 1), (1, 1), (2, 1)]) Tryd.underlying81 ty81 (by kernel_rfl) (by simp only [List.map_toArray, List.map_cons, List.map_nil, hF.tmp 4 rfl, hF.tmp 6 rfl, hF.tmp 8 rfl] <;> rfl) rfl) ?_; clear hF; intro a hF
 refine wpList_plain rfl fun K hK => ?_
 refine w_storeA 2 hH ty81 rfl (hF.tmp 2 rfl) (hF.tmp 9 rfl) rfl (by simp [Value.cells, Value.oneCell']) rfl ?_
 clear hH; intro w hH
 refine hK _ _ ?_; clear hK K
 refine wpList_nil ?_
 refine hK2 _ _ ?_
 refine wp_ret ?_
 try simp only [Exit.then, Exit.inBlock]
 exact fin_ret hF (resc hF rfl rfl (hH.at 2 rfl) ty81 rfl) ⟨rfl, hH.mods⟩
set_option maxRecDepth 100000 in
set_option maxHeartbeats 1000000 in
theorem last_calls (w0 : World) {X : Asn} {bt : Nat} {m : TabM} (hX : TabA 122 bt m X) (hok : X.ok w0) (s : ByteArray) : Calls Tryd.prog 31 #[.pointer (some ⟨bt, 0, none⟩), .string s] w0 fun e w' => e = .returned (.tuple #[.int .i64 (getT m s).number, .bool (getT m s).finished]) ∧ Mods (fun _ => False) w0 w' := by
 obtain ⟨bm, okm, rfl⟩ := hX
 refine calls_of_wp Tryd.func31 rfl ?_
 have hF := Fr.enter #[.pointer (some ⟨bt, 0, none⟩), .string s] 19 (slotsOf [.pointer (some ⟨bt, 0, none⟩), .string s] 0) (Nat.le_of_ble_eq_true rfl) (fun i v h => by have h2 := (get_slotsOf _ 0 i v h).2; simpa only [List.getElem?_toArray, Nat.sub_zero] using h2)
 rw [Tryd.ntmps31]
 revert hF; generalize (⟨(#[.pointer (some ⟨bt, 0, none⟩), .string s] : Array Value) ++ Array.replicate (19 - (#[.pointer (some ⟨bt, 0, none⟩), .string s] : Array Value).size) undef, []⟩ : Act) = a; intro hF
 have hH := tab_ro hok.holds
 refine wp_seq_k fun khK1 hK1 => ?_
 refine wp_region_lit ?_
 refine l_at hF rfl rfl rfl (x_assign rfl) ?_; clear hF; intro a hF
 refine l_at hF rfl rfl rfl (x_assign rfl) ?_; clear hF; intro a hF
 refine wpList_nil ?_
 refine hK1 _ _ ?_
 refine wp_seq_k fun khK2 hK2 => ?_
 refine wp_seq_k fun khK3 hK3 => ?_
 refine wp_region_lit ?_
 refine l_at hF rfl rfl rfl (x_move (hF.tmp 0 rfl)) ?_; clear hF; intro a hF
 refine l_at hF rfl rfl rfl (x_ptrnil Tryd.underlying58 (hF.tmp 7 rfl) rfl) ?_; clear hF; intro a hF
 refine wpList_nil ?_
 refine hK3 _ _ ?_
 refine wp_cond_false (hF.tmp 8 rfl) ?_
 refine wp_skip ?_
 refine hK2 _ _ ?_
 refine wp_seq_k fun khK4 hK4 => ?_
 refine wp_region_lit ?_
 refine l_at hF rfl rfl rfl (x_move (hF.tmp 0 rfl)) ?_; clear hF; intro a hF
 refine l_at hF rfl rfl rfl (x_nil (hF.tmp 9 rfl)) ?_; clear hF; intro a hF
 refine l_at hF rfl rfl rfl (x_faddr Tryd.underlying122 rfl ty120 (by decide) (hF.tmp 10 rfl) rfl) ?_; clear hF; intro a hF
 refine l_at hF rfl rfl rfl (x_load1 ty120 (hF.tmp 11 rfl) (blk_cell (hH.atro 1 rfl) 0 rfl)) ?_; clear hF; intro a hF
 refine l_at hF rfl rfl rfl (x_move (hF.tmp 1 rfl)) ?_; clear hF; intro a hF
 obtain ⟨vm14, hvm14, hlm14⟩ := (hH.mapro 2 rfl).look (P := Tryd.prog) Tryd.underlying120 Tryd.underlying9 ((ty124).zero _) last_zero s
 replace hvm14 : LV.R _ _ (getT m s) _ := hvm14
 obtain ⟨A14, c14, rfl, hr14⟩ := last_open hvm14
 have hH := hH.subrd 2 rfl 2014 hr14 (fun _ h => .inr h)
 refine l_at hF rfl rfl rfl (x_lookup hlm14 (hF.tmp 12 rfl) (hF.tmp 13 rfl)) ?_; clear hF; intro a hF
 refine wpList_plain rfl fun K hK => ?_
 refine w_alloc 6 hF hH rfl ty124 ?_
 clear hF hH; intro a w b6 hF hH
 refine hK _ _ ?_; clear hK K
 refine wpList_plain rfl fun K hK => ?_
 refine w_storeA 6 hH ty124 rfl (hF.tmp 6 rfl) (hF.tmp 14 rfl) rfl (by simp [Value.cells, Value.oneCell']) rfl ?_
 clear hH; intro w hH
 refine hK _ _ ?_; clear hK K
 refine wpList_nil ?_
 refine hK4 _ _ ?_
 refine wp_seq_k fun khK5 hK5 => ?_
 refine r_start [(6, .blk b6 (.cells #[.int .i64 (getT m s).number, .bool (getT m s).finished, .int .i64 (getT m s).ans.outcome, .int .i64 (getT m s).ans.err, .slice A14 (getT m s).ans.results.length c14] 124 (0, 0)))] (by kernel_rfl) hH fun hH => ?_
 have hS : SL [(6, .blk b6 (.cells #[.int .i64 (getT m s).number, .bool (getT m s).finished, .int .i64 (getT m s).ans.outcome, .int .i64 (getT m s).ans.err, .slice A14 (getT m s).ans.results.length c14] 124 (0, 0)))] _ := SL.of hH (sub_cons (sub_nil _) 6 rfl)
 refine r_take 0 hF rfl rfl rfl (by kernel_rfl) (by kernel_rfl) (by kernel_rfl) (fun _ _ _ h => h) rfl hS (fun w hS => x_faddr Tryd.underlying124 rfl ty3 (by decide) (hF.tmp 6 rfl) rfl) rfl ?_; clear hF; intro a hF
 refine r_take 1 hF rfl rfl rfl (by kernel_rfl) (by kernel_rfl) (by kernel_rfl) (fun _ _ _ h => h) rfl hS (fun w hS => x_load1 ty3 (hF.tmp 15 rfl) (blk_cell (SL.at_ hS 6 rfl) 0 rfl)) rfl ?_; clear hF; intro a hF
 refine r_take 2 hF rfl rfl rfl (by kernel_rfl) (by kernel_rfl) (by kernel_rfl) (fun _ _ _ h => h) rfl hS (fun w hS => x_faddr Tryd.underlying124 rfl ty4 (by decide) (hF.tmp 6 rfl) rfl) rfl ?_; clear hF; intro a hF
 refine r_take 3 hF rfl rfl rfl (by kernel_rfl) (by kernel_rfl) (by kernel_rfl) (fun _ _ _ h => h) rfl hS (fun w hS => x_load1 ty4 (hF.tmp 17 rfl) (blk_cell (SL.at_ hS 6 rfl) 1 rfl)) rfl ?_; clear hF; intro a hF
 refine r_take 4 hF rfl rfl rfl (by kernel_rfl) (by kernel_rfl) (by kernel_rfl) (fun _ _ _ h => h) rfl hS (fun w hS => x_assign (hF.tmp 16 rfl)) rfl ?_; clear hF; intro a hF
 refine r_take 5 hF rfl rfl rfl (by kernel_rfl) (by kernel_rfl) (by kernel_rfl) (fun _ _ _ h => h) rfl hS (fun w hS => x_assign (hF.tmp 18 rfl)) rfl ?_; clear hF; intro a hF
 refine r_end (by kernel_rfl) ?_; clear hS
 refine hK5 _ _ ?_
 refine wp_ret ?_
 try simp only [Exit.then, Exit.inBlock]
 exact fin_ret hF (res2 hF rfl rfl rfl) ⟨rfl, hH.mods⟩
set_option maxRecDepth 100000 in
set_option maxHeartbeats 1000000 in
theorem kfind_calls (w0 : World) {X : Asn} {bl : Nat} {l : List KnowD} (hX : KnoA 78 bl l X) (hok : X.ok w0) {c : List Int} (hc : Byte c) (hB : ∀ (i : Nat) x, l[i]? = some x → Byte x.client) : Calls Tryd.prog 63 #[.pointer (some ⟨bl, 0, none⟩), .string (strOfNums c)] w0 fun e w' => ∃ i, e = .returned (.int .i64 i) ∧ FindP l c i ∧ Mods (fun _ => False) w0 w' := by
 obtain ⟨Al, cl, okl, rfl⟩ := hX
 refine calls_of_wp Tryd.func63 rfl ?_
 have hF := Fr.enter #[.pointer (some ⟨bl, 0, none⟩), .string (strOfNums c)] 26 (slotsOf [.pointer (some ⟨bl, 0, none⟩), .string (strOfNums c)] 0) (Nat.le_of_ble_eq_true rfl) (fun i v h => by have h2 := (get_slotsOf _ 0 i v h).2; simpa only [List.getElem?_toArray, Nat.sub_zero] using h2)
 rw [Tryd.ntmps63]
 revert hF; generalize (⟨(#[.pointer (some ⟨bl, 0, none⟩), .string (strOfNums c)] : Array Value) ++ Array.replicate (26 - (#[.pointer (some ⟨bl, 0, none⟩), .string (strOfNums c)] : Array Value).size) undef, []⟩ : Act) = a; intro hF
 have hH := kno_ro hok.holds
 have hll := (hH.rd 2 rfl).le; unfold maxLen at hll
 refine wp_seq_k fun khK1 hK1 => ?_
 refine wp_region_lit ?_
 refine l_at hF rfl rfl rfl (x_assign rfl) ?_; clear hF; intro a hF
 refine wpList_nil ?_
 refine hK1 _ _ ?_
 refine wp_seq_k fun khK2 hK2 => ?_
 refine wp_seq_k fun khK3 hK3 => ?_
 refine wp_region_lit ?_
 refine l_at hF rfl rfl rfl (x_assign rfl) ?_; clear hF; intro a hF
 refine wpList_nil ?_
 refine hK3 _ _ ?_
 refine wp_block ?_
 refine wp_loop_ghost (fun n_ a w => ∃ k : Nat, n_ = l.length - k ∧ (k ≤ l.length) ∧ (∀ (j : Nat) x, j < k → l[j]? = some x → x.client ≠ c) ∧ Fr 26 a [(0, .pointer (some ⟨bl, 0, none⟩)), (1, .string (strOfNums c)), (5, .int .i64 (k : Int))] ∧ Hp (fun _ => False) w0 w [(1, .ro (.blk bl (.cells #[.slice Al l.length cl] 78 (0, 0)))), (2, .rd_ KnowE Al l cl okl)]) (l.length) ?_ ?_
 ·exact ⟨0, rfl, by omega, (fun j x hj _ => by omega), (((hF.bare.add hF 5 rfl).add hF 1 rfl).add hF 0 rfl), hH.sub _ (sub_cons (sub_cons (sub_nil _) 2 rfl) 1 rfl)⟩
 ·rintro _ a w ⟨k, rfl, hq0_0, hq0_1, hF, hH⟩
  refine wp_seq_k fun khK4 hK4 => ?_
  refine wp_seq_k fun khK5 hK5 => ?_
  refine wp_region_lit ?_
  refine l_at hF rfl rfl rfl (x_move (hF.tmp 5 rfl)) ?_; clear hF; intro a hF
  refine l_at hF rfl rfl rfl (x_move (hF.tmp 0 rfl)) ?_; clear hF; intro a hF
  refine l_at hF rfl rfl rfl (x_nil (hF.tmp 7 rfl)) ?_; clear hF; intro a hF
  refine l_at hF rfl rfl rfl (x_faddr Tryd.underlying78 rfl ty76 (by decide) (hF.tmp 8 rfl) rfl) ?_; clear hF; intro a hF
  refine l_at hF rfl rfl rfl (x_load1 ty76 (hF.tmp 9 rfl) (blk_cell (hH.atro 1 rfl) 0 rfl)) ?_; clear hF; intro a hF
  refine l_at hF rfl rfl rfl (x_len_slice Tryd.underlying76 (hF.tmp 10 rfl)) ?_; clear hF; intro a hF
  refine l_at hF rfl rfl rfl (x_lss (hF.tmp 6 rfl) (hF.tmp 11 rfl)) ?_; clear hF; intro a hF
  refine wpList_nil ?_
  refine hK5 _ _ ?_
  refine wp_cond_split (hF.tmp 12 rfl) (fun hc12 => ?_) (fun hc12 => ?_)
  ·have hk12_1 := hc12; try simp only [Bool.or_eq_true, Bool.and_eq_true, Bool.or_eq_false_iff, Bool.and_eq_false_iff, Bool.not_eq_true', Bool.not_eq_false', decide_eq_true_eq, decide_eq_false_iff_not, Bool.not_true, Bool.not_false] at hc12
   refine wp_skip ?_
   refine hK4 _ _ ?_
   refine wp_seq_k fun khK6 hK6 => ?_
   refine wp_block ?_
   refine wp_seq_k fun khK7 hK7 => ?_
   refine wp_region_lit ?_
   obtain ⟨fA1, fc1, hfr1, hf1_0, hf1_1, hf1_2, hf1_3, hf1_4, hf1_5, hfw1⟩ := rd_know ((hH.rd 2 rfl)) (gknow_some (xs := l) (i := (k : Int)) (by omega) (by omega))
   have hH := hH.subrd 2 rfl 1005 hfr1 (fun _ h => h)
   have hH := hH.subcels 2 rfl 1499 hfw1 (Rd.inok ((hH.rd 2 rfl)) (by omega) _)
   have hH := hH.subcel 2 rfl 1500 hf1_0 (Rd.inok ((hH.rd 2 rfl)) (by omega) _)
   have hH := hH.subcel 2 rfl 1501 hf1_1 (Rd.inok ((hH.rd 2 rfl)) (by omega) _)
   have hH := hH.subcel 2 rfl 1502 hf1_2 (Rd.inok ((hH.rd 2 rfl)) (by omega) _)
   have hH := hH.subcel 2 rfl 1503 hf1_3 (Rd.inok ((hH.rd 2 rfl)) (by omega) _)
   have hH := hH.subcel 2 rfl 1504 hf1_4 (Rd.inok ((hH.rd 2 rfl)) (by omega) _)
   have hH := hH.subcel 2 rfl 1505 hf1_5 (Rd.inok ((hH.rd 2 rfl)) (by omega) _)
   refine l_at hF rfl rfl rfl (x_move (hF.tmp 0 rfl)) ?_; clear hF; intro a hF
   refine l_at hF rfl rfl rfl (x_nil (hF.tmp 15 rfl)) ?_; clear hF; intro a hF
   refine l_at hF rfl rfl rfl (x_faddr Tryd.underlying78 rfl ty76 (by decide) (hF.tmp 16 rfl) rfl) ?_; clear hF; intro a hF
   refine l_at hF rfl rfl rfl (x_load1 ty76 (hF.tmp 17 rfl) (blk_cell (hH.atro 1 rfl) 0 rfl)) ?_; clear hF; intro a hF
   refine l_at hF rfl rfl rfl (x_move (hF.tmp 5 rfl)) ?_; clear hF; intro a hF
   refine l_at hF rfl rfl rfl (x_iaddr_A Tryd.underlying76 ty87 ((hH.rd 2 rfl)) (hF.tmp 18 rfl) (hF.tmp 19 rfl) (by omega) (by omega) _) ?_; clear hF; intro a hF
   refine l_at hF rfl rfl rfl (x_faddrA ((hH.rd 2 rfl)) (by omega) _ Tryd.underlying87 rfl ty9 (by decide) (hF.tmp 20 rfl) rfl) ?_; clear hF; intro a hF
   refine l_at hF rfl rfl rfl (x_load1 ty9 (hF.tmp 21 rfl) (hH.holds 1500 _ rfl)) ?_; clear hF; intro a hF
   refine l_at hF rfl rfl rfl (x_move (hF.tmp 1 rfl)) ?_; clear hF; intro a hF
   refine l_at hF rfl rfl rfl (x_eqn (xs := ((gknow l (k : Int)).client)) (ys := c) (hF.tmp 22 rfl) (hF.tmp 23 rfl) (hB _ _ (gknow_at (j := k) (by omega))) hc) ?_; clear hF; intro a hF
   refine wpList_nil ?_
   refine hK7 _ _ ?_
   refine wp_cond_split (hF.tmp 24 rfl) (fun hc24 => ?_) (fun hc24 => ?_)
   ·have hk24_2 := hc24; try simp only [Bool.or_eq_true, Bool.and_eq_true, Bool.or_eq_false_iff, Bool.and_eq_false_iff, Bool.not_eq_true', Bool.not_eq_false', decide_eq_true_eq, decide_eq_false_iff_not, Bool.not_true, Bool.not_false] at hc24
    refine wp_seq_k fun khK8 hK8 => ?_
    refine wp_region_lit ?_
    refine l_at hF rfl rfl rfl (x_move (hF.tmp 5 rfl)) ?_; clear hF; intro a hF
    refine l_at hF rfl rfl rfl (x_assign (hF.tmp 25 rfl)) ?_; clear hF; intro a hF
    refine wpList_nil ?_
    refine hK8 _ _ ?_
    refine wp_ret ?_
    try simp only [Exit.then, Exit.inBlock]
    exact fin_ret hF (res1 hF rfl rfl) ⟨_, rfl, .inr ⟨by omega, by omega, hc24⟩, hH.mods⟩
   ·have hk24_3 := hc24; try simp only [Bool.or_eq_true, Bool.and_eq_true, Bool.or_eq_false_iff, Bool.and_eq_false_iff, Bool.not_eq_true', Bool.not_eq_false', decide_eq_true_eq, decide_eq_false_iff_not, Bool.not_true, Bool.not_false] at hc24
    refine wp_skip ?_
    refine hK6 _ _ ?_
    refine wp_region_lit ?_
    refine l_at hF rfl rfl rfl (x_move (hF.tmp 5 rfl)) ?_; clear hF; intro a hF
    refine l_at hF rfl rfl rfl (x_add (hF.tmp 13 rfl) rfl (w64 (by omega) (by omega))) ?_; clear hF; intro a hF
    refine l_at hF rfl rfl rfl (x_assign (hF.tmp 14 rfl)) ?_; clear hF; intro a hF
    refine wpList_nil ?_
    exact ⟨_, by omega, ⟨k + 1, rfl, by omega, find_step hq0_1 (by omega) hc24, (((hF.bare.add hF 5 rfl).add hF 1 rfl).add hF 0 rfl), hH.sub _ (sub_cons (sub_cons (sub_nil _) 2 rfl) 1 rfl)⟩⟩
  ·have hk12_4 := hc12; try simp only [Bool.or_eq_true, Bool.and_eq_true, Bool.or_eq_false_iff, Bool.and_eq_false_iff, Bool.not_eq_true', Bool.not_eq_false', decide_eq_true_eq, decide_eq_false_iff_not, Bool.not_true, Bool.not_false] at hc12
   obtain rfl : k = l.length := by omega
   refine wp_exit ?_
   refine hK2 _ _ ?_
   refine wp_seq_k fun khK9 hK9 => ?_
   refine wp_region_lit ?_
   refine l_at hF rfl rfl rfl (x_assign rfl) ?_; clear hF; intro a hF
   refine wpList_nil ?_
   refine hK9 _ _ ?_
   refine wp_ret ?_
   try simp only [Exit.then, Exit.inBlock]
   exact fin_ret hF (res1 hF rfl rfl) ⟨_, rfl, find_end hq0_1, hH.mods⟩
set_option maxRecDepth 100000 in
set_option maxHeartbeats 1000000 in
theorem kask_calls (w0 : World) {X : Asn} {bl : Nat} {l : List KnowD} (hX : KnoA 78 bl l X) (hok : X.ok w0) {m : TabM} (hR : Rel l m) (hfew : l.length ≤ 1000) {r : SReqD} {okr0 : Nat → Prop} {Ar0 : Option Addr} {cr0 : Nat} (hrr0 : Rd OpdE w0 okr0 Ar0 r.ops cr0) (hb : SReqB r) (hinr0 : ∀ k, okr0 k → k < w0.heap.size) (hapr0 : ∀ k, okr0 k → ¬ X.own k) : Calls Tryd.prog 32 #[.pointer (some ⟨bl, 0, none⟩), .agg #[.string (strOfNums r.client), .int .i64 r.num, .slice Ar0 r.ops.length cr0]] w0 fun e w' => ∃ (l' : List KnowD) (X' : Asn) (A : Option Addr) (c : Nat), e = .returned (.tuple #[.agg #[.int .i64 (askA m r).outcome, .int .i64 (askA m r).err, .slice A (askA m r).results.length c], .bool (askF m r), .int .i64 (askE m r)]) ∧ KnoA 78 bl l' X' ∧ Rel l' (askM m r) ∧ l'.length ≤ l.length + 1 ∧ Grew (fun _ => False) (fun _ => False) X w0 w' X' ∧ Rd ResE w' X'.rd A (askA m r).results c := by
 obtain ⟨Al, cl, okl, rfl⟩ := hX
 refine calls_of_wp Tryd.func32 rfl ?_
 have hF := Fr.enter #[.pointer (some ⟨bl, 0, none⟩), .agg #[.string (strOfNums r.client), .int .i64 r.num, .slice Ar0 r.ops.length cr0]] 88 (slotsOf [.pointer (some ⟨bl, 0, none⟩), .agg #[.string (strOfNums r.client), .int .i64 r.num, .slice Ar0 r.ops.length cr0]] 0) (Nat.le_of_ble_eq_true rfl) (fun i v h => by have h2 := (get_slotsOf _ 0 i v h).2; simpa only [List.getElem?_toArray, Nat.sub_zero] using h2)
 rw [Tryd.ntmps32]
 revert hF; generalize (⟨(#[.pointer (some ⟨bl, 0, none⟩), .agg #[.string (strOfNums r.client), .int .i64 r.num, .slice Ar0 r.ops.length cr0]] : Array Value) ++ Array.replicate (88 - (#[.pointer (some ⟨bl, 0, none⟩), .agg #[.string (strOfNums r.client), .int .i64 r.num, .slice Ar0 r.ops.length cr0]] : Array Value).size) undef, []⟩ : Act) = a; intro hF
 have hH := Hp.ofAll hok.holds
 have hll := (hH.rd 2 rfl).le; unfold maxLen at hll
 have hH := hH.readable 900 hrr0 hinr0 (fun j Y hY k hk hk2 => hapr0 k hk2 ⟨j, Y, hY, hk⟩)
 have hler0 := hrr0.le; unfold maxLen at hler0
 refine wp_seq_k fun khK1 hK1 => ?_
 refine wp_region_lit ?_
 refine wpList_plain rfl fun K hK => ?_
 refine w_box 3 hF hH rfl (hF.tmp 1 rfl) ?_
 clear hF hH; intro a w b3 hF hH
 refine hK _ _ ?_; clear hK K
 refine wpList_plain rfl fun K hK => ?_
 refine w_alloc 4 hF hH rfl ty68 ?_
 clear hF hH; intro a w b4 hF hH
 refine hK _ _ ?_; clear hK K
 refine l_at hF rfl rfl rfl (x_assign rfl) ?_; clear hF; intro a hF
 refine l_at hF rfl rfl rfl (x_assign rfl) ?_; clear hF; intro a hF
 refine wpList_nil ?_
 refine hK1 _ _ ?_
 refine wp_seq_k fun khK2 hK2 => ?_
 refine wp_region_lit ?_
 refine l_at hF rfl rfl rfl (x_loadn ty81 (hF.tmp 3 rfl) rfl (blk_whole (hH.at 3 rfl))) ?_; clear hF; intro a hF
 refine wpList_plain rfl fun K hK => ?_
 refine w_call hF (x_enter Tryd.func62 (by kernel_rfl) rfl (by simp only [List.map_toArray, List.map_cons, List.map_nil, hF.tmp 10 rfl] <;> rfl)) (r22right_calls _ ((hH.rd 900 rfl)) hb) rfl rfl ?_
 rintro _ w ⟨rfl, hm_⟩; refine ⟨_, rfl, ?_⟩; clear hF; intro a hF; have hH := hH.same hm_
 refine hK _ _ ?_; clear hK K
 refine l_at hF rfl rfl rfl (x_assign (hF.tmp 11 rfl)) ?_; clear hF; intro a hF
 refine wpList_nil ?_
 refine hK2 _ _ ?_
 refine wp_seq_k fun khK3 hK3 => ?_
 refine wp_seq_k fun khK4 hK4 => ?_
 refine wp_region_lit ?_
 refine l_at hF rfl rfl rfl (x_move (hF.tmp 7 rfl)) ?_; clear hF; intro a hF
 refine l_at hF rfl rfl rfl (x_not (hF.tmp 12 rfl)) ?_; clear hF; intro a hF
 refine wpList_nil ?_
 refine hK4 _ _ ?_
 refine wp_cond_split (hF.tmp 13 rfl) (fun hc13 => ?_) (fun hc13 => ?_)
 ·have hk13_1 := hc13; try simp only [Bool.or_eq_true, Bool.and_eq_true, Bool.or_eq_false_iff, Bool.and_eq_false_iff, Bool.not_eq_true', Bool.not_eq_false', decide_eq_true_eq, decide_eq_false_iff_not, Bool.not_true, Bool.not_false] at hc13
  refine wp_seq_k fun khK5 hK5 => ?_
  refine wp_region_lit ?_
  refine l_at hF rfl rfl rfl (x_buildS (cells := #[.int .i64 0, .int .i64 0, .slice none 0 0]) (places := #[(0, 1), (1, 1), (2, 1)]) Tryd.underlying68 ty68 (by kernel_rfl) Array.map_empty rfl) ?_; clear hF; intro a hF
  refine wpList_plain rfl fun K hK => ?_
  refine w_storeA 4 hH ty68 rfl (hF.tmp 4 rfl) (hF.tmp 14 rfl) rfl (by simp [Value.cells, Value.oneCell']) rfl ?_
  clear hH; intro w hH
  refine hK _ _ ?_; clear hK K
  refine l_at hF rfl rfl rfl (x_assign rfl) ?_; clear hF; intro a hF
  refine l_at hF rfl rfl rfl (x_assign rfl) ?_; clear hF; intro a hF
  refine wpList_nil ?_
  refine hK5 _ _ ?_
  refine wp_ret ?_
  try simp only [Exit.then, Exit.inBlock]
  obtain ⟨hA_, hF_, hE_, hM_⟩ := ask_wrong (m := m) (by simpa using hc13)
  refine fin_ret hF (resctt hF rfl rfl rfl rfl (hH.at 4 rfl) ty68 rfl) ⟨l, Asn.all [(1, .blk bl (.cells #[.slice Al l.length cl] 78 (0, 0))), (2, .rd_ KnowE Al l cl okl)], none, 0, by rw [hA_, hF_, hE_] <;> rfl, ⟨_, _, _, rfl⟩, by rw [hM_]; exact hR, by omega, grew_of (hH.sub [(1, .blk bl (.cells #[.slice Al l.length cl] 78 (0, 0))), (2, .rd_ KnowE Al l cl okl)] (sub_cons (sub_cons (sub_nil _) 2 rfl) 1 rfl)) (rdin_cons (fun k h => h.elim) (rdin_cons (fun k h => .inr (.inl ⟨2, _, rfl, h⟩)) rdin_nil)), ?_⟩
  rw [hA_]; exact Rd.nil _ _ _
 ·have hk13_2 := hc13; try simp only [Bool.or_eq_true, Bool.and_eq_true, Bool.or_eq_false_iff, Bool.and_eq_false_iff, Bool.not_eq_true', Bool.not_eq_false', decide_eq_true_eq, decide_eq_false_iff_not, Bool.not_true, Bool.not_false] at hc13
  have hr0 : rightQ r = true := by simpa using hc13
  refine wp_skip ?_
  refine hK3 _ _ ?_
  refine wp_seq_k fun khK6 hK6 => ?_
  refine wp_region_lit ?_
  refine l_at hF rfl rfl rfl (x_move (hF.tmp 0 rfl)) ?_; clear hF; intro a hF
  refine l_at hF rfl rfl rfl (x_faddr Tryd.underlying81 rfl ty9 (by decide) (hF.tmp 3 rfl) rfl) ?_; clear hF; intro a hF
  refine l_at hF rfl rfl rfl (x_load1 ty9 (hF.tmp 16 rfl) (blk_cell (hH.at 3 rfl) 0 rfl)) ?_; clear hF; intro a hF
  refine wpList_plain rfl fun K hK => ?_
  refine w_call hF (x_enter Tryd.func63 (by kernel_rfl) rfl (by simp only [List.map_toArray, List.map_cons, List.map_nil, hF.tmp 15 rfl, hF.tmp 17 rfl] <;> rfl)) (kfind_calls (c := r.client) _ ⟨_, _, _, rfl⟩ (hH.sub [(1, .blk bl (.cells #[.slice Al l.length cl] 78 (0, 0))), (2, .rd_ KnowE Al l cl okl)] (sub_cons (sub_cons (sub_nil _) 2 rfl) 1 rfl)).okAll hb.client (fun i x h => (hR.byte i x h).1)) rfl rfl ?_
  rintro _ w ⟨i8, rfl, hfd, hm_⟩; refine ⟨_, rfl, ?_⟩; clear hF; intro a hF; have hH := hH.same hm_
  refine hK _ _ ?_; clear hK K
  refine l_at hF rfl rfl rfl (x_assign (hF.tmp 18 rfl)) ?_; clear hF; intro a hF
  refine wpList_nil ?_
  refine hK6 _ _ ?_
  refine wp_seq_k fun khK7 hK7 => ?_
  refine wp_seq_k fun khK8 hK8 => ?_
  refine wp_region_lit ?_
  refine l_at hF rfl rfl rfl (x_move (hF.tmp 8 rfl)) ?_; clear hF; intro a hF
  refine l_at hF rfl rfl rfl (x_lss (hF.tmp 19 rfl) rfl) ?_; clear hF; intro a hF
  refine wpList_nil ?_
  refine hK8 _ _ ?_
  refine wp_cond_split (hF.tmp 20 rfl) (fun hc20 => ?_) (fun hc20 => ?_)
  ·have hk20_3 := hc20; try simp only [Bool.or_eq_true, Bool.and_eq_true, Bool.or_eq_false_iff, Bool.and_eq_false_iff, Bool.not_eq_true', Bool.not_eq_false', decide_eq_true_eq, decide_eq_false_iff_not, Bool.not_true, Bool.not_false] at hc20
   obtain ⟨hmiss, _⟩ := rel_miss hR hb.client (find_no hfd (by omega))
   refine wp_seq_k fun khK9 hK9 => ?_
   refine r_start [(3, .blk b3 (.cells #[.string (strOfNums r.client), .int .i64 r.num, .slice Ar0 r.ops.length cr0] 81 (0, 0)))] (by kernel_rfl) hH fun hH => ?_
   have hS : SL [(3, .blk b3 (.cells #[.string (strOfNums r.client), .int .i64 r.num, .slice Ar0 r.ops.length cr0] 81 (0, 0)))] _ := SL.of hH (sub_cons (sub_nil _) 3 rfl)
   refine r_take 0 hF rfl rfl rfl (by kernel_rfl) (by kernel_rfl) (by kernel_rfl) (fun _ _ _ h => h) rfl hS (fun w hS => x_move (hF.tmp 0 rfl)) rfl ?_; clear hF; intro a hF
   refine r_take 2 hF rfl rfl rfl (by kernel_rfl) (by kernel_rfl) (by kernel_rfl) (fun _ _ _ h => h) rfl hS (fun w hS => x_move (hF.tmp 0 rfl)) rfl ?_; clear hF; intro a hF
   refine r_take 3 hF rfl rfl rfl (by kernel_rfl) (by kernel_rfl) (by kernel_rfl) (fun _ _ _ h => h) rfl hS (fun w hS => x_nil (hF.tmp 23 rfl)) rfl ?_; clear hF; intro a hF
   refine r_take 4 hF rfl rfl rfl (by kernel_rfl) (by kernel_rfl) (by kernel_rfl) (fun _ _ _ h => h) rfl hS (fun w hS => x_faddr Tryd.underlying78 rfl ty76 (by decide) (hF.tmp 24 rfl) rfl) rfl ?_; clear hF; intro a hF
   refine r_take 7 hF rfl rfl rfl (by kernel_rfl) (by kernel_rfl) (by kernel_rfl) (fun _ _ _ h => h) rfl hS (fun w hS => x_faddr Tryd.underlying81 rfl ty9 (by decide) (hF.tmp 3 rfl) rfl) rfl ?_; clear hF; intro a hF
   refine r_take 8 hF rfl rfl rfl (by kernel_rfl) (by kernel_rfl) (by kernel_rfl) (fun _ _ _ h => h) rfl hS (fun w hS => x_load1 ty9 (hF.tmp 28 rfl) (blk_cell (SL.at_ hS 3 rfl) 0 rfl)) rfl ?_; clear hF; intro a hF
   refine r_take 9 hF rfl rfl rfl (by kernel_rfl) (by kernel_rfl) (by kernel_rfl) (fun _ _ _ h => h) rfl hS (fun w hS => x_faddr Tryd.underlying81 rfl ty3 (by decide) (hF.tmp 3 rfl) rfl) rfl ?_; clear hF; intro a hF
   refine r_take 10 hF rfl rfl rfl (by kernel_rfl) (by kernel_rfl) (by kernel_rfl) (fun _ _ _ h => h) rfl hS (fun w hS => x_load1 ty3 (hF.tmp 30 rfl) (blk_cell (SL.at_ hS 3 rfl) 1 rfl)) rfl ?_; clear hF; intro a hF
   refine r_take 11 hF rfl rfl rfl (by kernel_rfl) (by kernel_rfl) (by kernel_rfl) (fun _ _ _ h => h) rfl hS (fun w hS => x_buildS (cells := #[.string (strOfNums r.client), .int .i64 r.num, .bool false, .int .i64 0, .int .i64 0, .slice none 0 0]) (places := #[(0, 1), (1, 1), (2, 1), (3, 3)]) Tryd.underlying87 ty87 (by kernel_rfl) (by simp only [List.map_toArray, List.map_cons, List.map_nil, hF.tmp 29 rfl, hF.tmp 31 rfl] <;> rfl) rfl) rfl ?_; clear hF; intro a hF
   refine r_do3 1 5 12 rfl rfl rfl (by kernel_rfl) rfl rfl rfl rfl rfl rfl ?_ ?_ ?_
   ·
    refine w_lit0 KnowE 22 hF hH rfl Tryd.underlying76 ty87 ?_
    clear hF hH; intro a w b22 hF hH
    clear hS; have hS : SL _ _ := SL.of hH (sub_cons (sub_nil _) 3 rfl); refine ⟨hS, ?_⟩
    refine r_do2 5 12 rfl rfl (by kernel_rfl) rfl rfl rfl rfl ?_ ?_
    ·
     refine w_at hF (x_load1 ty76 (hF.tmp 25 rfl) (blk_cell (hH.at 1 rfl) 0 rfl)) rfl rfl ?_
     clear hF; intro a hF
     clear hS; have hS : SL _ _ := SL.of hH (sub_cons (sub_nil _) 3 rfl); refine ⟨hS, ?_⟩
     refine r_do2 6 12 rfl rfl (by kernel_rfl) rfl rfl rfl rfl ?_ ?_
     ·
      refine w_append 22 2 (xs := ([])) (ys := l) hF hH rfl Tryd.underlying76 ty87 rfl rfl rfl rfl ((hH.rd 2 rfl)) (by intro k_ hk_; exact .inr hk_) (hF.tmp 22 rfl) (hF.tmp 26 rfl) (by simp only [List.length_nil, List.length_append, List.length_cons]; omega) (by simp only [List.length_nil, List.length_append, List.length_cons, maxLen]; omega) (fun kb => (fun _ => False) kb ∨ okl kb) (fun w' v' h => h) (by rintro k_ (hk_ | hk_); exact .inl hk_; exact .inr hk_) ?_
      clear hF hH; intro a w v27 hF hH
      clear hS; have hS : SL _ _ := SL.of hH (sub_cons (sub_nil _) 3 rfl); refine ⟨hS, ?_⟩
      refine r_do 12 rfl (by kernel_rfl) rfl rfl ?_
      refine w_lit1 33 KnowE (knew r.client r.num false ans0) #[.string (strOfNums r.client), .int .i64 r.num, .bool false, .int .i64 0, .int .i64 0, .slice none 0 0] (fun _ => False) hF hH rfl Tryd.underlying76 ty87 (by simp only [List.map_toArray, List.map_cons, List.map_nil, hF.tmp 32 rfl] <;> rfl) (by decide) (by kernel_rfl) (know_mk (knew r.client r.num false ans0) (Rd.nil _ _ _)) (fun kb hk => hk.elim) ?_
      clear hF hH; intro a w b33 hF hb33_ hH
      clear hS; have hS : SL _ _ := SL.of hH (sub_cons (sub_nil _) 3 rfl); refine ⟨hS, ?_⟩
      refine r_do 13 rfl (by kernel_rfl) rfl rfl ?_
      refine w_append 22 33 (xs := ([] ++ l)) (ys := ([(knew r.client r.num false ans0)])) hF hH rfl Tryd.underlying76 ty87 rfl rfl rfl rfl ((hH.rd 33 rfl)) (by intro k_ hk_; exact .inr hk_) (hF.tmp 27 rfl) (hF.tmp 33 rfl) (by simp only [List.length_nil, List.length_append, List.length_cons]; omega) (by simp only [List.length_nil, List.length_append, List.length_cons, maxLen]; omega) (fun kb => (fun kb => (fun _ => False) kb ∨ okl kb) kb ∨ (fun kb => (fun _ => False) kb ∨ kb = b33) kb) (fun w' v' h => h) (by rintro k_ (hk_ | hk_); exact .inl hk_; exact .inr hk_) ?_
      clear hF hH; intro a w v34 hF hH
      clear hS; have hS : SL _ _ := SL.of hH (sub_cons (sub_nil _) 3 rfl); refine ⟨hS, ?_⟩
      obtain ⟨A34, c34, rfl⟩ := (hH.row 22 rfl).form
      refine r_take 14 hF rfl rfl rfl (by kernel_rfl) (by kernel_rfl) (by kernel_rfl) (fun _ _ _ h => h) rfl hS (fun w hS => x_nil (hF.tmp 21 rfl)) rfl ?_; clear hF; intro a hF
      refine r_take 15 hF rfl rfl rfl (by kernel_rfl) (by kernel_rfl) (by kernel_rfl) (fun _ _ _ h => h) rfl hS (fun w hS => x_faddr Tryd.underlying78 rfl ty76 (by decide) (hF.tmp 35 rfl) rfl) rfl ?_; clear hF; intro a hF
      refine r_do 16 rfl (by kernel_rfl) rfl rfl ?_
      refine w_store 1 hH ty76 rfl (hF.tmp 36 rfl) (hF.tmp 34 rfl) rfl (one1 rfl rfl) (by first | decide | exact Nat.le_of_ble_eq_true rfl) ?_
      clear hH; intro w hH
      clear hS; have hS : SL _ _ := SL.of hH (sub_cons (sub_nil _) 3 rfl); refine ⟨hS, ?_⟩
      refine r_end (by kernel_rfl) ?_; clear hS
      refine hK9 _ _ ?_
      refine wp_seq_k fun khK10 hK10 => ?_
      refine wp_region_lit ?_
      refine l_at hF rfl rfl rfl (x_buildS (cells := #[.int .i64 0, .int .i64 0, .slice none 0 0]) (places := #[(0, 1), (1, 1), (2, 1)]) Tryd.underlying68 ty68 (by kernel_rfl) Array.map_empty rfl) ?_; clear hF; intro a hF
      refine wpList_plain rfl fun K hK => ?_
      refine w_storeA 4 hH ty68 rfl (hF.tmp 4 rfl) (hF.tmp 37 rfl) rfl (by simp [Value.cells, Value.oneCell']) rfl ?_
      clear hH; intro w hH
      refine hK _ _ ?_; clear hK K
      refine l_at hF rfl rfl rfl (x_assign rfl) ?_; clear hF; intro a hF
      refine l_at hF rfl rfl rfl (x_assign rfl) ?_; clear hF; intro a hF
      refine wpList_nil ?_
      refine hK10 _ _ ?_
      refine wp_ret ?_
      try simp only [Exit.then, Exit.inBlock]
      rw [List.nil_append] at hH
      have hfrn : ∀ kb, (Value.slice A34 (l ++ [(knew r.client r.num false ans0)]).length c34).ownBlock = some kb → (OwnL [(1, .blk bl (.cells #[.slice Al l.length cl] 78 (0, 0))), (2, .rd_ KnowE Al l cl okl)]) kb ∨ w0.heap.size ≤ kb := fun kb h => hH.mine 22 _ rfl kb h
      have hH := hH.freeze 22 rfl (fun kb => (fun kb => (fun kb => (fun _ => False) kb ∨ okl kb) kb ∨ (fun kb => (fun _ => False) kb ∨ kb = b33) kb) kb ∨ (Value.slice A34 (l ++ [(knew r.client r.num false ans0)]).length c34).ownBlock = some kb) (fun kb => Iff.rfl)
      have hH := hH.subrd 22 rfl 2 (hH.rd 22 rfl) (fun _ h => h)
      obtain ⟨hA_, hF_, hE_, hM_⟩ := ask_new hr0 (.inl hmiss)
      refine fin_ret hF (resctt hF rfl rfl rfl rfl (hH.at 4 rfl) ty68 rfl) ⟨(l ++ [(knew r.client r.num false ans0)]), Asn.all [(1, .blk bl (.cells #[.slice A34 (l ++ [(knew r.client r.num false ans0)]).length c34] 78 (0, 0))), (2, .rd_ KnowE A34 (l ++ [(knew r.client r.num false ans0)]) c34 (fun kb => (fun kb => (fun kb => (fun _ => False) kb ∨ okl kb) kb ∨ (fun kb => (fun _ => False) kb ∨ kb = b33) kb) kb ∨ (Value.slice A34 (l ++ [(knew r.client r.num false ans0)]).length c34).ownBlock = some kb))], none, 0, by rw [hA_, hF_, hE_] <;> rfl, ⟨_, _, _, rfl⟩, by rw [hM_]; exact rel_add hR hb.client (rightQ_parts hr0).2.1 (find_no hfd (by omega)) _ _ _, by simp only [List.length_append, List.length_cons, List.length_nil]; omega, grew_of (hH.sub [(1, .blk bl (.cells #[.slice A34 (l ++ [(knew r.client r.num false ans0)]).length c34] 78 (0, 0))), (2, .rd_ KnowE A34 (l ++ [(knew r.client r.num false ans0)]) c34 (fun kb => (fun kb => (fun kb => (fun _ => False) kb ∨ okl kb) kb ∨ (fun kb => (fun _ => False) kb ∨ kb = b33) kb) kb ∨ (Value.slice A34 (l ++ [(knew r.client r.num false ans0)]).length c34).ownBlock = some kb))] (sub_cons (sub_cons (sub_nil _) 2 rfl) 1 rfl)) (rdin_cons (fun k h => h.elim) (rdin_cons (fun k h => Or.elim h (fun h => by rcases h with (h | h) | h | h; exact h.elim; exact .inr (.inl ⟨2, _, rfl, h⟩); exact h.elim; subst h; exact hb33_.elim .inl (fun q => .inr (.inr (.inr q)))) (fun h => (hfrn k h).elim .inl (fun q => .inr (.inr (.inr q))))) rdin_nil)), ?_⟩
      rw [hA_]; exact Rd.nil _ _ _
     ·
      refine w_lit1 33 KnowE (knew r.client r.num false ans0) #[.string (strOfNums r.client), .int .i64 r.num, .bool false, .int .i64 0, .int .i64 0, .slice none 0 0] (fun _ => False) hF hH rfl Tryd.underlying76 ty87 (by simp only [List.map_toArray, List.map_cons, List.map_nil, hF.tmp 32 rfl] <;> rfl) (by decide) (by kernel_rfl) (know_mk (knew r.client r.num false ans0) (Rd.nil _ _ _)) (fun kb hk => hk.elim) ?_
      clear hF hH; intro a w b33 hF hb33_ hH
      clear hS; have hS : SL _ _ := SL.of hH (sub_cons (sub_nil _) 3 rfl); refine ⟨hS, ?_⟩
      refine r_do 6 rfl (by kernel_rfl) rfl rfl ?_
      refine w_append 22 2 (xs := ([])) (ys := l) hF hH rfl Tryd.underlying76 ty87 rfl rfl rfl rfl ((hH.rd 2 rfl)) (by intro k_ hk_; exact .inr hk_) (hF.tmp 22 rfl) (hF.tmp 26 rfl) (by simp only [List.length_nil, List.length_append, List.length_cons]; omega) (by simp only [List.length_nil, List.length_append, List.length_cons, maxLen]; omega) (fun kb => (fun _ => False) kb ∨ okl kb) (fun w' v' h => h) (by rintro k_ (hk_ | hk_); exact .inl hk_; exact .inr hk_) ?_
      clear hF hH; intro a w v27 hF hH
      clear hS; have hS : SL _ _ := SL.of hH (sub_cons (sub_nil _) 3 rfl); refine ⟨hS, ?_⟩
      refine r_do 13 rfl (by kernel_rfl) rfl rfl ?_
      refine w_append 22 33 (xs := ([] ++ l)) (ys := ([(knew r.client r.num false ans0)])) hF hH rfl Tryd.underlying76 ty87 rfl rfl rfl rfl ((hH.rd 33 rfl)) (by intro k_ hk_; exact .inr hk_) (hF.tmp 27 rfl) (hF.tmp 33 rfl) (by simp only [List.length_nil, List.length_append, List.length_cons]; omega) (by simp only [List.length_nil, List.length_append, List.length_cons, maxLen]; omega) (fun kb => (fun kb => (fun _ => False) kb ∨ okl kb) kb ∨ (fun kb => (fun _ => False) kb ∨ kb = b33) kb) (fun w' v' h => h) (by rintro k_ (hk_ | hk_); exact .inl hk_; exact .inr hk_) ?_
      clear hF hH; intro a w v34 hF hH
      clear hS; have hS : SL _ _ := SL.of hH (sub_cons (sub_nil _) 3 rfl); refine ⟨hS, ?_⟩
      obtain ⟨A34, c34, rfl⟩ := (hH.row 22 rfl).form
      refine r_take 14 hF rfl rfl rfl (by kernel_rfl) (by kernel_rfl) (by kernel_rfl) (fun _ _ _ h => h) rfl hS (fun w hS => x_nil (hF.tmp 21 rfl)) rfl ?_; clear hF; intro a hF
      refine r_take 15 hF rfl rfl rfl (by kernel_rfl) (by kernel_rfl) (by kernel_rfl) (fun _ _ _ h => h) rfl hS (fun w hS => x_faddr Tryd.underlying78 rfl ty76 (by decide) (hF.tmp 35 rfl) rfl) rfl ?_; clear hF; intro a hF
      refine r_do 16 rfl (by kernel_rfl) rfl rfl ?_
      refine w_store 1 hH ty76 rfl (hF.tmp 36 rfl) (hF.tmp 34 rfl) rfl (one1 rfl rfl) (by first | decide | exact Nat.le_of_ble_eq_true rfl) ?_
      clear hH; intro w hH
      clear hS; have hS : SL _ _ := SL.of hH (sub_cons (sub_nil _) 3 rfl); refine ⟨hS, ?_⟩
      refine r_end (by kernel_rfl) ?_; clear hS
      refine hK9 _ _ ?_
      refine wp_seq_k fun khK11 hK11 => ?_
      refine wp_region_lit ?_
      refine l_at hF rfl rfl rfl (x_buildS (cells := #[.int .i64 0, .int .i64 0, .slice none 0 0]) (places := #[(0, 1), (1, 1), (2, 1)]) Tryd.underlying68 ty68 (by kernel_rfl) Array.map_empty rfl) ?_; clear hF; intro a hF
      refine wpList_plain rfl fun K hK => ?_
      refine w_storeA 4 hH ty68 rfl (hF.tmp 4 rfl) (hF.tmp 37 rfl) rfl (by simp [Value.cells, Value.oneCell']) rfl ?_
      clear hH; intro w hH
      refine hK _ _ ?_; clear hK K
      refine l_at hF rfl rfl rfl (x_assign rfl) ?_; clear hF; intro a hF
      refine l_at hF rfl rfl rfl (x_assign rfl) ?_; clear hF; intro a hF
      refine wpList_nil ?_
      refine hK11 _ _ ?_
      refine wp_ret ?_
      try simp only [Exit.then, Exit.inBlock]
      rw [List.nil_append] at hH
      have hfrn : ∀ kb, (Value.slice A34 (l ++ [(knew r.client r.num false ans0)]).length c34).ownBlock = some kb → (OwnL [(1, .blk bl (.cells #[.slice Al l.length cl] 78 (0, 0))), (2, .rd_ KnowE Al l cl okl)]) kb ∨ w0.heap.size ≤ kb := fun kb h => hH.mine 22 _ rfl kb h
      have hH := hH.freeze 22 rfl (fun kb => (fun kb => (fun kb => (fun _ => False) kb ∨ okl kb) kb ∨ (fun kb => (fun _ => False) kb ∨ kb = b33) kb) kb ∨ (Value.slice A34 (l ++ [(knew r.client r.num false ans0)]).length c34).ownBlock = some kb) (fun kb => Iff.rfl)
      have hH := hH.subrd 22 rfl 2 (hH.rd 22 rfl) (fun _ h => h)
      obtain ⟨hA_, hF_, hE_, hM_⟩ := ask_new hr0 (.inl hmiss)
      refine fin_ret hF (resctt hF rfl rfl rfl rfl (hH.at 4 rfl) ty68 rfl) ⟨(l ++ [(knew r.client r.num false ans0)]), Asn.all [(1, .blk bl (.cells #[.slice A34 (l ++ [(knew r.client r.num false ans0)]).length c34] 78 (0, 0))), (2, .rd_ KnowE A34 (l ++ [(knew r.client r.num false ans0)]) c34 (fun kb => (fun kb => (fun kb => (fun _ => False) kb ∨ okl kb) kb ∨ (fun kb => (fun _ => False) kb ∨ kb = b33) kb) kb ∨ (Value.slice A34 (l ++ [(knew r.client r.num false ans0)]).length c34).ownBlock = some kb))], none, 0, by rw [hA_, hF_, hE_] <;> rfl, ⟨_, _, _, rfl⟩, by rw [hM_]; exact rel_add hR hb.client (rightQ_parts hr0).2.1 (find_no hfd (by omega)) _ _ _, by simp only [List.length_append, List.length_cons, List.length_nil]; omega, grew_of (hH.sub [(1, .blk bl (.cells #[.slice A34 (l ++ [(knew r.client r.num false ans0)]).length c34] 78 (0, 0))), (2, .rd_ KnowE A34 (l ++ [(knew r.client r.num false ans0)]) c34 (fun kb => (fun kb => (fun kb => (fun _ => False) kb ∨ okl kb) kb ∨ (fun kb => (fun _ => False) kb ∨ kb = b33) kb) kb ∨ (Value.slice A34 (l ++ [(knew r.client r.num false ans0)]).length c34).ownBlock = some kb))] (sub_cons (sub_cons (sub_nil _) 2 rfl) 1 rfl)) (rdin_cons (fun k h => h.elim) (rdin_cons (fun k h => Or.elim h (fun h => by rcases h with (h | h) | h | h; exact h.elim; exact .inr (.inl ⟨2, _, rfl, h⟩); exact h.elim; subst h; exact hb33_.elim .inl (fun q => .inr (.inr (.inr q)))) (fun h => (hfrn k h).elim .inl (fun q => .inr (.inr (.inr q))))) rdin_nil)), ?_⟩
      rw [hA_]; exact Rd.nil _ _ _
    ·
     refine w_lit1 33 KnowE (knew r.client r.num false ans0) #[.string (strOfNums r.client), .int .i64 r.num, .bool false, .int .i64 0, .int .i64 0, .slice none 0 0] (fun _ => False) hF hH rfl Tryd.underlying76 ty87 (by simp only [List.map_toArray, List.map_cons, List.map_nil, hF.tmp 32 rfl] <;> rfl) (by decide) (by kernel_rfl) (know_mk (knew r.client r.num false ans0) (Rd.nil _ _ _)) (fun kb hk => hk.elim) ?_
     clear hF hH; intro a w b33 hF hb33_ hH
     clear hS; have hS : SL _ _ := SL.of hH (sub_cons (sub_nil _) 3 rfl); refine ⟨hS, ?_⟩
     refine r_do 5 rfl (by kernel_rfl) rfl rfl ?_
     refine w_at hF (x_load1 ty76 (hF.tmp 25 rfl) (blk_cell (hH.at 1 rfl) 0 rfl)) rfl rfl ?_
     clear hF; intro a hF
     clear hS; have hS : SL _ _ := SL.of hH (sub_cons (sub_nil _) 3 rfl); refine ⟨hS, ?_⟩
     refine r_do 6 rfl (by kernel_rfl) rfl rfl ?_
     refine w_append 22 2 (xs := ([])) (ys := l) hF hH rfl Tryd.underlying76 ty87 rfl rfl rfl rfl ((hH.rd 2 rfl)) (by intro k_ hk_; exact .inr hk_) (hF.tmp 22 rfl) (hF.tmp 26 rfl) (by simp only [List.length_nil, List.length_append, List.length_cons]; omega) (by simp only [List.length_nil, List.length_append, List.length_cons, maxLen]; omega) (fun kb => (fun _ => False) kb ∨ okl kb) (fun w' v' h => h) (by rintro k_ (hk_ | hk_); exact .inl hk_; exact .inr hk_) ?_
     clear hF hH; intro a w v27 hF hH
     clear hS; have hS : SL _ _ := SL.of hH (sub_cons (sub_nil _) 3 rfl); refine ⟨hS, ?_⟩
     refine r_do 13 rfl (by kernel_rfl) rfl rfl ?_
     refine w_append 22 33 (xs := ([] ++ l)) (ys := ([(knew r.client r.num false ans0)])) hF hH rfl Tryd.underlying76 ty87 rfl rfl rfl rfl ((hH.rd 33 rfl)) (by intro k_ hk_; exact .inr hk_) (hF.tmp 27 rfl) (hF.tmp 33 rfl) (by simp only [List.length_nil, List.length_append, List.length_cons]; omega) (by simp only [List.length_nil, List.length_append, List.length_cons, maxLen]; omega) (fun kb => (fun kb => (fun _ => False) kb ∨ okl kb) kb ∨ (fun kb => (fun _ => False) kb ∨ kb = b33) kb) (fun w' v' h => h) (by rintro k_ (hk_ | hk_); exact .inl hk_; exact .inr hk_) ?_
     clear hF hH; intro a w v34 hF hH
     clear hS; have hS : SL _ _ := SL.of hH (sub_cons (sub_nil _) 3 rfl); refine ⟨hS, ?_⟩
     obtain ⟨A34, c34, rfl⟩ := (hH.row 22 rfl).form
     refine r_take 14 hF rfl rfl rfl (by kernel_rfl) (by kernel_rfl) (by kernel_rfl) (fun _ _ _ h => h) rfl hS (fun w hS => x_nil (hF.tmp 21 rfl)) rfl ?_; clear hF; intro a hF
     refine r_take 15 hF rfl rfl rfl (by kernel_rfl) (by kernel_rfl) (by kernel_rfl) (fun _ _ _ h => h) rfl hS (fun w hS => x_faddr Tryd.underlying78 rfl ty76 (by decide) (hF.tmp 35 rfl) rfl) rfl ?_; clear hF; intro a hF
     refine r_do 16 rfl (by kernel_rfl) rfl rfl ?_
     refine w_store 1 hH ty76 rfl (hF.tmp 36 rfl) (hF.tmp 34 rfl) rfl (one1 rfl rfl) (by first | decide | exact Nat.le_of_ble_eq_true rfl) ?_
     clear hH; intro w hH
     clear hS; have hS : SL _ _ := SL.of hH (sub_cons (sub_nil _) 3 rfl); refine ⟨hS, ?_⟩
     refine r_end (by kernel_rfl) ?_; clear hS
     refine hK9 _ _ ?_
     refine wp_seq_k fun khK12 hK12 => ?_
     refine wp_region_lit ?_
     refine l_at hF rfl rfl rfl (x_buildS (cells := #[.int .i64 0, .int .i64 0, .slice none 0 0]) (places := #[(0, 1), (1, 1), (2, 1)]) Tryd.underlying68 ty68 (by kernel_rfl) Array.map_empty rfl) ?_; clear hF; intro a hF
     refine wpList_plain rfl fun K hK => ?_
     refine w_storeA 4 hH ty68 rfl (hF.tmp 4 rfl) (hF.tmp 37 rfl) rfl (by simp [Value.cells, Value.oneCell']) rfl ?_
     clear hH; intro w hH
     refine hK _ _ ?_; clear hK K
     refine l_at hF rfl rfl rfl (x_assign rfl) ?_; clear hF; intro a hF
     refine l_at hF rfl rfl rfl (x_assign rfl) ?_; clear hF; intro a hF
     refine wpList_nil ?_
     refine hK12 _ _ ?_
     refine wp_ret ?_
     try simp only [Exit.then, Exit.inBlock]
     rw [List.nil_append] at hH
     have hfrn : ∀ kb, (Value.slice A34 (l ++ [(knew r.client r.num false ans0)]).length c34).ownBlock = some kb → (OwnL [(1, .blk bl (.cells #[.slice Al l.length cl] 78 (0, 0))), (2, .rd_ KnowE Al l cl okl)]) kb ∨ w0.heap.size ≤ kb := fun kb h => hH.mine 22 _ rfl kb h
     have hH := hH.freeze 22 rfl (fun kb => (fun kb => (fun kb => (fun _ => False) kb ∨ okl kb) kb ∨ (fun kb => (fun _ => False) kb ∨ kb = b33) kb) kb ∨ (Value.slice A34 (l ++ [(knew r.client r.num false ans0)]).length c34).ownBlock = some kb) (fun kb => Iff.rfl)
     have hH := hH.subrd 22 rfl 2 (hH.rd 22 rfl) (fun _ h => h)
     obtain ⟨hA_, hF_, hE_, hM_⟩ := ask_new hr0 (.inl hmiss)
     refine fin_ret hF (resctt hF rfl rfl rfl rfl (hH.at 4 rfl) ty68 rfl) ⟨(l ++ [(knew r.client r.num false ans0)]), Asn.all [(1, .blk bl (.cells #[.slice A34 (l ++ [(knew r.client r.num false ans0)]).length c34] 78 (0, 0))), (2, .rd_ KnowE A34 (l ++ [(knew r.client r.num false ans0)]) c34 (fun kb => (fun kb => (fun kb => (fun _ => False) kb ∨ okl kb) kb ∨ (fun kb => (fun _ => False) kb ∨ kb = b33) kb) kb ∨ (Value.slice A34 (l ++ [(knew r.client r.num false ans0)]).length c34).ownBlock = some kb))], none, 0, by rw [hA_, hF_, hE_] <;> rfl, ⟨_, _, _, rfl⟩, by rw [hM_]; exact rel_add hR hb.client (rightQ_parts hr0).2.1 (find_no hfd (by omega)) _ _ _, by simp only [List.length_append, List.length_cons, List.length_nil]; omega, grew_of (hH.sub [(1, .blk bl (.cells #[.slice A34 (l ++ [(knew r.client r.num false ans0)]).length c34] 78 (0, 0))), (2, .rd_ KnowE A34 (l ++ [(knew r.client r.num false ans0)]) c34 (fun kb => (fun kb => (fun kb => (fun _ => False) kb ∨ okl kb) kb ∨ (fun kb => (fun _ => False) kb ∨ kb = b33) kb) kb ∨ (Value.slice A34 (l ++ [(knew r.client r.num false ans0)]).length c34).ownBlock = some kb))] (sub_cons (sub_cons (sub_nil _) 2 rfl) 1 rfl)) (rdin_cons (fun k h => h.elim) (rdin_cons (fun k h => Or.elim h (fun h => by rcases h with (h | h) | h | h; exact h.elim; exact .inr (.inl ⟨2, _, rfl, h⟩); exact h.elim; subst h; exact hb33_.elim .inl (fun q => .inr (.inr (.inr q)))) (fun h => (hfrn k h).elim .inl (fun q => .inr (.inr (.inr q))))) rdin_nil)), ?_⟩
     rw [hA_]; exact Rd.nil _ _ _
   ·
    refine w_at hF (x_load1 ty76 (hF.tmp 25 rfl) (blk_cell (hH.at 1 rfl) 0 rfl)) rfl rfl ?_
    clear hF; intro a hF
    clear hS; have hS : SL _ _ := SL.of hH (sub_cons (sub_nil _) 3 rfl); refine ⟨hS, ?_⟩
    refine r_do2 1 12 rfl rfl (by kernel_rfl) rfl rfl rfl rfl ?_ ?_
    ·
     refine w_lit0 KnowE 22 hF hH rfl Tryd.underlying76 ty87 ?_
     clear hF hH; intro a w b22 hF hH
     clear hS; have hS : SL _ _ := SL.of hH (sub_cons (sub_nil _) 3 rfl); refine ⟨hS, ?_⟩
     refine r_do2 6 12 rfl rfl (by kernel_rfl) rfl rfl rfl rfl ?_ ?_
     ·
      refine w_append 22 2 (xs := ([])) (ys := l) hF hH rfl Tryd.underlying76 ty87 rfl rfl rfl rfl ((hH.rd 2 rfl)) (by intro k_ hk_; exact .inr hk_) (hF.tmp 22 rfl) (hF.tmp 26 rfl) (by simp only [List.length_nil, List.length_append, List.length_cons]; omega) (by simp only [List.length_nil, List.length_append, List.length_cons, maxLen]; omega) (fun kb => (fun _ => False) kb ∨ okl kb) (fun w' v' h => h) (by rintro k_ (hk_ | hk_); exact .inl hk_; exact .inr hk_) ?_
      clear hF hH; intro a w v27 hF hH
      clear hS; have hS : SL _ _ := SL.of hH (sub_cons (sub_nil _) 3 rfl); refine ⟨hS, ?_⟩
      refine r_do 12 rfl (by kernel_rfl) rfl rfl ?_
      refine w_lit1 33 KnowE (knew r.client r.num false ans0) #[.string (strOfNums r.client), .int .i64 r.num, .bool false, .int .i64 0, .int .i64 0, .slice none 0 0] (fun _ => False) hF hH rfl Tryd.underlying76 ty87 (by simp only [List.map_toArray, List.map_cons, List.map_nil, hF.tmp 32 rfl] <;> rfl) (by decide) (by kernel_rfl) (know_mk (knew r.client r.num false ans0) (Rd.nil _ _ _)) (fun kb hk => hk.elim) ?_
      clear hF hH; intro a w b33 hF hb33_ hH
      clear hS; have hS : SL _ _ := SL.of hH (sub_cons (sub_nil _) 3 rfl); refine ⟨hS, ?_⟩
      refine r_do 13 rfl (by kernel_rfl) rfl rfl ?_
      refine w_append 22 33 (xs := ([] ++ l)) (ys := ([(knew r.client r.num false ans0)])) hF hH rfl Tryd.underlying76 ty87 rfl rfl rfl rfl ((hH.rd 33 rfl)) (by intro k_ hk_; exact .inr hk_) (hF.tmp 27 rfl) (hF.tmp 33 rfl) (by simp only [List.length_nil, List.length_append, List.length_cons]; omega) (by simp only [List.length_nil, List.length_append, List.length_cons, maxLen]; omega) (fun kb => (fun kb => (fun _ => False) kb ∨ okl kb) kb ∨ (fun kb => (fun _ => False) kb ∨ kb = b33) kb) (fun w' v' h => h) (by rintro k_ (hk_ | hk_); exact .inl hk_; exact .inr hk_) ?_
      clear hF hH; intro a w v34 hF hH
      clear hS; have hS : SL _ _ := SL.of hH (sub_cons (sub_nil _) 3 rfl); refine ⟨hS, ?_⟩
      obtain ⟨A34, c34, rfl⟩ := (hH.row 22 rfl).form
      refine r_take 14 hF rfl rfl rfl (by kernel_rfl) (by kernel_rfl) (by kernel_rfl) (fun _ _ _ h => h) rfl hS (fun w hS => x_nil (hF.tmp 21 rfl)) rfl ?_; clear hF; intro a hF
      refine r_take 15 hF rfl rfl rfl (by kernel_rfl) (by kernel_rfl) (by kernel_rfl) (fun _ _ _ h => h) rfl hS (fun w hS => x_faddr Tryd.underlying78 rfl ty76 (by decide) (hF.tmp 35 rfl) rfl) rfl ?_; clear hF; intro a hF
      refine r_do 16 rfl (by kernel_rfl) rfl rfl ?_
      refine w_store 1 hH ty76 rfl (hF.tmp 36 rfl) (hF.tmp 34 rfl) rfl (one1 rfl rfl) (by first | decide | exact Nat.le_of_ble_eq_true rfl) ?_
      clear hH; intro w hH
      clear hS; have hS : SL _ _ := SL.of hH (sub_cons (sub_nil _) 3 rfl); refine ⟨hS, ?_⟩
      refine r_end (by kernel_rfl) ?_; clear hS
      refine hK9 _ _ ?_
      refine wp_seq_k fun khK13 hK13 => ?_
      refine wp_region_lit ?_
      refine l_at hF rfl rfl rfl (x_buildS (cells := #[.int .i64 0, .int .i64 0, .slice none 0 0]) (places := #[(0, 1), (1, 1), (2, 1)]) Tryd.underlying68 ty68 (by kernel_rfl) Array.map_empty rfl) ?_; clear hF; intro a hF
      refine wpList_plain rfl fun K hK => ?_
      refine w_storeA 4 hH ty68 rfl (hF.tmp 4 rfl) (hF.tmp 37 rfl) rfl (by simp [Value.cells, Value.oneCell']) rfl ?_
      clear hH; intro w hH
      refine hK _ _ ?_; clear hK K
      refine l_at hF rfl rfl rfl (x_assign rfl) ?_; clear hF; intro a hF
      refine l_at hF rfl rfl rfl (x_assign rfl) ?_; clear hF; intro a hF
      refine wpList_nil ?_
      refine hK13 _ _ ?_
      refine wp_ret ?_
      try simp only [Exit.then, Exit.inBlock]
      rw [List.nil_append] at hH
      have hfrn : ∀ kb, (Value.slice A34 (l ++ [(knew r.client r.num false ans0)]).length c34).ownBlock = some kb → (OwnL [(1, .blk bl (.cells #[.slice Al l.length cl] 78 (0, 0))), (2, .rd_ KnowE Al l cl okl)]) kb ∨ w0.heap.size ≤ kb := fun kb h => hH.mine 22 _ rfl kb h
      have hH := hH.freeze 22 rfl (fun kb => (fun kb => (fun kb => (fun _ => False) kb ∨ okl kb) kb ∨ (fun kb => (fun _ => False) kb ∨ kb = b33) kb) kb ∨ (Value.slice A34 (l ++ [(knew r.client r.num false ans0)]).length c34).ownBlock = some kb) (fun kb => Iff.rfl)
      have hH := hH.subrd 22 rfl 2 (hH.rd 22 rfl) (fun _ h => h)
      obtain ⟨hA_, hF_, hE_, hM_⟩ := ask_new hr0 (.inl hmiss)
      refine fin_ret hF (resctt hF rfl rfl rfl rfl (hH.at 4 rfl) ty68 rfl) ⟨(l ++ [(knew r.client r.num false ans0)]), Asn.all [(1, .blk bl (.cells #[.slice A34 (l ++ [(knew r.client r.num false ans0)]).length c34] 78 (0, 0))), (2, .rd_ KnowE A34 (l ++ [(knew r.client r.num false ans0)]) c34 (fun kb => (fun kb => (fun kb => (fun _ => False) kb ∨ okl kb) kb ∨ (fun kb => (fun _ => False) kb ∨ kb = b33) kb) kb ∨ (Value.slice A34 (l ++ [(knew r.client r.num false ans0)]).length c34).ownBlock = some kb))], none, 0, by rw [hA_, hF_, hE_] <;> rfl, ⟨_, _, _, rfl⟩, by rw [hM_]; exact rel_add hR hb.client (rightQ_parts hr0).2.1 (find_no hfd (by omega)) _ _ _, by simp only [List.length_append, List.length_cons, List.length_nil]; omega, grew_of (hH.sub [(1, .blk bl (.cells #[.slice A34 (l ++ [(knew r.client r.num false ans0)]).length c34] 78 (0, 0))), (2, .rd_ KnowE A34 (l ++ [(knew r.client r.num false ans0)]) c34 (fun kb => (fun kb => (fun kb => (fun _ => False) kb ∨ okl kb) kb ∨ (fun kb => (fun _ => False) kb ∨ kb = b33) kb) kb ∨ (Value.slice A34 (l ++ [(knew r.client r.num false ans0)]).length c34).ownBlock = some kb))] (sub_cons (sub_cons (sub_nil _) 2 rfl) 1 rfl)) (rdin_cons (fun k h => h.elim) (rdin_cons (fun k h => Or.elim h (fun h => by rcases h with (h | h) | h | h; exact h.elim; exact .inr (.inl ⟨2, _, rfl, h⟩); exact h.elim; subst h; exact hb33_.elim .inl (fun q => .inr (.inr (.inr q)))) (fun h => (hfrn k h).elim .inl (fun q => .inr (.inr (.inr q))))) rdin_nil)), ?_⟩
      rw [hA_]; exact Rd.nil _ _ _
     ·
      refine w_lit1 33 KnowE (knew r.client r.num false ans0) #[.string (strOfNums r.client), .int .i64 r.num, .bool false, .int .i64 0, .int .i64 0, .slice none 0 0] (fun _ => False) hF hH rfl Tryd.underlying76 ty87 (by simp only [List.map_toArray, List.map_cons, List.map_nil, hF.tmp 32 rfl] <;> rfl) (by decide) (by kernel_rfl) (know_mk (knew r.client r.num false ans0) (Rd.nil _ _ _)) (fun kb hk => hk.elim) ?_
      clear hF hH; intro a w b33 hF hb33_ hH
      clear hS; have hS : SL _ _ := SL.of hH (sub_cons (sub_nil _) 3 rfl); refine ⟨hS, ?_⟩
      refine r_do 6 rfl (by kernel_rfl) rfl rfl ?_
      refine w_append 22 2 (xs := ([])) (ys := l) hF hH rfl Tryd.underlying76 ty87 rfl rfl rfl rfl ((hH.rd 2 rfl)) (by intro k_ hk_; exact .inr hk_) (hF.tmp 22 rfl) (hF.tmp 26 rfl) (by simp only [List.length_nil, List.length_append, List.length_cons]; omega) (by simp only [List.length_nil, List.length_append, List.length_cons, maxLen]; omega) (fun kb => (fun _ => False) kb ∨ okl kb) (fun w' v' h => h) (by rintro k_ (hk_ | hk_); exact .inl hk_; exact .inr hk_) ?_
      clear hF hH; intro a w v27 hF hH
      clear hS; have hS : SL _ _ := SL.of hH (sub_cons (sub_nil _) 3 rfl); refine ⟨hS, ?_⟩
      refine r_do 13 rfl (by kernel_rfl) rfl rfl ?_
      refine w_append 22 33 (xs := ([] ++ l)) (ys := ([(knew r.client r.num false ans0)])) hF hH rfl Tryd.underlying76 ty87 rfl rfl rfl rfl ((hH.rd 33 rfl)) (by intro k_ hk_; exact .inr hk_) (hF.tmp 27 rfl) (hF.tmp 33 rfl) (by simp only [List.length_nil, List.length_append, List.length_cons]; omega) (by simp only [List.length_nil, List.length_append, List.length_cons, maxLen]; omega) (fun kb => (fun kb => (fun _ => False) kb ∨ okl kb) kb ∨ (fun kb => (fun _ => False) kb ∨ kb = b33) kb) (fun w' v' h => h) (by rintro k_ (hk_ | hk_); exact .inl hk_; exact .inr hk_) ?_
      clear hF hH; intro a w v34 hF hH
      clear hS; have hS : SL _ _ := SL.of hH (sub_cons (sub_nil _) 3 rfl); refine ⟨hS, ?_⟩
      obtain ⟨A34, c34, rfl⟩ := (hH.row 22 rfl).form
      refine r_take 14 hF rfl rfl rfl (by kernel_rfl) (by kernel_rfl) (by kernel_rfl) (fun _ _ _ h => h) rfl hS (fun w hS => x_nil (hF.tmp 21 rfl)) rfl ?_; clear hF; intro a hF
      refine r_take 15 hF rfl rfl rfl (by kernel_rfl) (by kernel_rfl) (by kernel_rfl) (fun _ _ _ h => h) rfl hS (fun w hS => x_faddr Tryd.underlying78 rfl ty76 (by decide) (hF.tmp 35 rfl) rfl) rfl ?_; clear hF; intro a hF
      refine r_do 16 rfl (by kernel_rfl) rfl rfl ?_
      refine w_store 1 hH ty76 rfl (hF.tmp 36 rfl) (hF.tmp 34 rfl) rfl (one1 rfl rfl) (by first | decide | exact Nat.le_of_ble_eq_true rfl) ?_
      clear hH; intro w hH
      clear hS; have hS : SL _ _ := SL.of hH (sub_cons (sub_nil _) 3 rfl); refine ⟨hS, ?_⟩
      refine r_end (by kernel_rfl) ?_; clear hS
      refine hK9 _ _ ?_
      refine wp_seq_k fun khK14 hK14 => ?_
      refine wp_region_lit ?_
      refine l_at hF rfl rfl rfl (x_buildS (cells := #[.int .i64 0, .int .i64 0, .slice none 0 0]) (places := #[(0, 1), (1, 1), (2, 1)]) Tryd.underlying68 ty68 (by kernel_rfl) Array.map_empty rfl) ?_; clear hF; intro a hF
      refine wpList_plain rfl fun K hK => ?_
      refine w_storeA 4 hH ty68 rfl (hF.tmp 4 rfl) (hF.tmp 37 rfl) rfl (by simp [Value.cells, Value.oneCell']) rfl ?_
      clear hH; intro w hH
      refine hK _ _ ?_; clear hK K
      refine l_at hF rfl rfl rfl (x_assign rfl) ?_; clear hF; intro a hF
      refine l_at hF rfl rfl rfl (x_assign rfl) ?_; clear hF; intro a hF
      refine wpList_nil ?_
      refine hK14 _ _ ?_
      refine wp_ret ?_
      try simp only [Exit.then, Exit.inBlock]
      rw [List.nil_append] at hH
      have hfrn : ∀ kb, (Value.slice A34 (l ++ [(knew r.client r.num false ans0)]).length c34).ownBlock = some kb → (OwnL [(1, .blk bl (.cells #[.slice Al l.length cl] 78 (0, 0))), (2, .rd_ KnowE Al l cl okl)]) kb ∨ w0.heap.size ≤ kb := fun kb h => hH.mine 22 _ rfl kb h
      have hH := hH.freeze 22 rfl (fun kb => (fun kb => (fun kb => (fun _ => False) kb ∨ okl kb) kb ∨ (fun kb => (fun _ => False) kb ∨ kb = b33) kb) kb ∨ (Value.slice A34 (l ++ [(knew r.client r.num false ans0)]).length c34).ownBlock = some kb) (fun kb => Iff.rfl)
      have hH := hH.subrd 22 rfl 2 (hH.rd 22 rfl) (fun _ h => h)
      obtain ⟨hA_, hF_, hE_, hM_⟩ := ask_new hr0 (.inl hmiss)
      refine fin_ret hF (resctt hF rfl rfl rfl rfl (hH.at 4 rfl) ty68 rfl) ⟨(l ++ [(knew r.client r.num false ans0)]), Asn.all [(1, .blk bl (.cells #[.slice A34 (l ++ [(knew r.client r.num false ans0)]).length c34] 78 (0, 0))), (2, .rd_ KnowE A34 (l ++ [(knew r.client r.num false ans0)]) c34 (fun kb => (fun kb => (fun kb => (fun _ => False) kb ∨ okl kb) kb ∨ (fun kb => (fun _ => False) kb ∨ kb = b33) kb) kb ∨ (Value.slice A34 (l ++ [(knew r.client r.num false ans0)]).length c34).ownBlock = some kb))], none, 0, by rw [hA_, hF_, hE_] <;> rfl, ⟨_, _, _, rfl⟩, by rw [hM_]; exact rel_add hR hb.client (rightQ_parts hr0).2.1 (find_no hfd (by omega)) _ _ _, by simp only [List.length_append, List.length_cons, List.length_nil]; omega, grew_of (hH.sub [(1, .blk bl (.cells #[.slice A34 (l ++ [(knew r.client r.num false ans0)]).length c34] 78 (0, 0))), (2, .rd_ KnowE A34 (l ++ [(knew r.client r.num false ans0)]) c34 (fun kb => (fun kb => (fun kb => (fun _ => False) kb ∨ okl kb) kb ∨ (fun kb => (fun _ => False) kb ∨ kb = b33) kb) kb ∨ (Value.slice A34 (l ++ [(knew r.client r.num false ans0)]).length c34).ownBlock = some kb))] (sub_cons (sub_cons (sub_nil _) 2 rfl) 1 rfl)) (rdin_cons (fun k h => h.elim) (rdin_cons (fun k h => Or.elim h (fun h => by rcases h with (h | h) | h | h; exact h.elim; exact .inr (.inl ⟨2, _, rfl, h⟩); exact h.elim; subst h; exact hb33_.elim .inl (fun q => .inr (.inr (.inr q)))) (fun h => (hfrn k h).elim .inl (fun q => .inr (.inr (.inr q))))) rdin_nil)), ?_⟩
      rw [hA_]; exact Rd.nil _ _ _
    ·
     refine w_lit1 33 KnowE (knew r.client r.num false ans0) #[.string (strOfNums r.client), .int .i64 r.num, .bool false, .int .i64 0, .int .i64 0, .slice none 0 0] (fun _ => False) hF hH rfl Tryd.underlying76 ty87 (by simp only [List.map_toArray, List.map_cons, List.map_nil, hF.tmp 32 rfl] <;> rfl) (by decide) (by kernel_rfl) (know_mk (knew r.client r.num false ans0) (Rd.nil _ _ _)) (fun kb hk => hk.elim) ?_
     clear hF hH; intro a w b33 hF hb33_ hH
     clear hS; have hS : SL _ _ := SL.of hH (sub_cons (sub_nil _) 3 rfl); refine ⟨hS, ?_⟩
     refine r_do 1 rfl (by kernel_rfl) rfl rfl ?_
     refine w_lit0 KnowE 22 hF hH rfl Tryd.underlying76 ty87 ?_
     clear hF hH; intro a w b22 hF hH
     clear hS; have hS : SL _ _ := SL.of hH (sub_cons (sub_nil _) 3 rfl); refine ⟨hS, ?_⟩
     refine r_do 6 rfl (by kernel_rfl) rfl rfl ?_
     refine w_append 22 2 (xs := ([])) (ys := l) hF hH rfl Tryd.underlying76 ty87 rfl rfl rfl rfl ((hH.rd 2 rfl)) (by intro k_ hk_; exact .inr hk_) (hF.tmp 22 rfl) (hF.tmp 26 rfl) (by simp only [List.length_nil, List.length_append, List.length_cons]; omega) (by simp only [List.length_nil, List.length_append, List.length_cons, maxLen]; omega) (fun kb => (fun _ => False) kb ∨ okl kb) (fun w' v' h => h) (by rintro k_ (hk_ | hk_); exact .inl hk_; exact .inr hk_) ?_
     clear hF hH; intro a w v27 hF hH
     clear hS; have hS : SL _ _ := SL.of hH (sub_cons (sub_nil _) 3 rfl); refine ⟨hS, ?_⟩
     refine r_do 13 rfl (by kernel_rfl) rfl rfl ?_
     refine w_append 22 33 (xs := ([] ++ l)) (ys := ([(knew r.client r.num false ans0)])) hF hH rfl Tryd.underlying76 ty87 rfl rfl rfl rfl ((hH.rd 33 rfl)) (by intro k_ hk_; exact .inr hk_) (hF.tmp 27 rfl) (hF.tmp 33 rfl) (by simp only [List.length_nil, List.length_append, List.length_cons]; omega) (by simp only [List.length_nil, List.length_append, List.length_cons, maxLen]; omega) (fun kb => (fun kb => (fun _ => False) kb ∨ okl kb) kb ∨ (fun kb => (fun _ => False) kb ∨ kb = b33) kb) (fun w' v' h => h) (by rintro k_ (hk_ | hk_); exact .inl hk_; exact .inr hk_) ?_
     clear hF hH; intro a w v34 hF hH
     clear hS; have hS : SL _ _ := SL.of hH (sub_cons (sub_nil _) 3 rfl); refine ⟨hS, ?_⟩
     obtain ⟨A34, c34, rfl⟩ := (hH.row 22 rfl).form
     refine r_take 14 hF rfl rfl rfl (by kernel_rfl) (by kernel_rfl) (by kernel_rfl) (fun _ _ _ h => h) rfl hS (fun w hS => x_nil (hF.tmp 21 rfl)) rfl ?_; clear hF; intro a hF
     refine r_take 15 hF rfl rfl rfl (by kernel_rfl) (by kernel_rfl) (by kernel_rfl) (fun _ _ _ h => h) rfl hS (fun w hS => x_faddr Tryd.underlying78 rfl ty76 (by decide) (hF.tmp 35 rfl) rfl) rfl ?_; clear hF; intro a hF
     refine r_do 16 rfl (by kernel_rfl) rfl rfl ?_
     refine w_store 1 hH ty76 rfl (hF.tmp 36 rfl) (hF.tmp 34 rfl) rfl (one1 rfl rfl) (by first | decide | exact Nat.le_of_ble_eq_true rfl) ?_
     clear hH; intro w hH
     clear hS; have hS : SL _ _ := SL.of hH (sub_cons (sub_nil _) 3 rfl); refine ⟨hS, ?_⟩
     refine r_end (by kernel_rfl) ?_; clear hS
     refine hK9 _ _ ?_
     refine wp_seq_k fun khK15 hK15 => ?_
     refine wp_region_lit ?_
     refine l_at hF rfl rfl rfl (x_buildS (cells := #[.int .i64 0, .int .i64 0, .slice none 0 0]) (places := #[(0, 1), (1, 1), (2, 1)]) Tryd.underlying68 ty68 (by kernel_rfl) Array.map_empty rfl) ?_; clear hF; intro a hF
     refine wpList_plain rfl fun K hK => ?_
     refine w_storeA 4 hH ty68 rfl (hF.tmp 4 rfl) (hF.tmp 37 rfl) rfl (by simp [Value.cells, Value.oneCell']) rfl ?_
     clear hH; intro w hH
     refine hK _ _ ?_; clear hK K
     refine l_at hF rfl rfl rfl (x_assign rfl) ?_; clear hF; intro a hF
     refine l_at hF rfl rfl rfl (x_assign rfl) ?_; clear hF; intro a hF
     refine wpList_nil ?_
     refine hK15 _ _ ?_
     refine wp_ret ?_
     try simp only [Exit.then, Exit.inBlock]
     rw [List.nil_append] at hH
     have hfrn : ∀ kb, (Value.slice A34 (l ++ [(knew r.client r.num false ans0)]).length c34).ownBlock = some kb → (OwnL [(1, .blk bl (.cells #[.slice Al l.length cl] 78 (0, 0))), (2, .rd_ KnowE Al l cl okl)]) kb ∨ w0.heap.size ≤ kb := fun kb h => hH.mine 22 _ rfl kb h
     have hH := hH.freeze 22 rfl (fun kb => (fun kb => (fun kb => (fun _ => False) kb ∨ okl kb) kb ∨ (fun kb => (fun _ => False) kb ∨ kb = b33) kb) kb ∨ (Value.slice A34 (l ++ [(knew r.client r.num false ans0)]).length c34).ownBlock = some kb) (fun kb => Iff.rfl)
     have hH := hH.subrd 22 rfl 2 (hH.rd 22 rfl) (fun _ h => h)
     obtain ⟨hA_, hF_, hE_, hM_⟩ := ask_new hr0 (.inl hmiss)
     refine fin_ret hF (resctt hF rfl rfl rfl rfl (hH.at 4 rfl) ty68 rfl) ⟨(l ++ [(knew r.client r.num false ans0)]), Asn.all [(1, .blk bl (.cells #[.slice A34 (l ++ [(knew r.client r.num false ans0)]).length c34] 78 (0, 0))), (2, .rd_ KnowE A34 (l ++ [(knew r.client r.num false ans0)]) c34 (fun kb => (fun kb => (fun kb => (fun _ => False) kb ∨ okl kb) kb ∨ (fun kb => (fun _ => False) kb ∨ kb = b33) kb) kb ∨ (Value.slice A34 (l ++ [(knew r.client r.num false ans0)]).length c34).ownBlock = some kb))], none, 0, by rw [hA_, hF_, hE_] <;> rfl, ⟨_, _, _, rfl⟩, by rw [hM_]; exact rel_add hR hb.client (rightQ_parts hr0).2.1 (find_no hfd (by omega)) _ _ _, by simp only [List.length_append, List.length_cons, List.length_nil]; omega, grew_of (hH.sub [(1, .blk bl (.cells #[.slice A34 (l ++ [(knew r.client r.num false ans0)]).length c34] 78 (0, 0))), (2, .rd_ KnowE A34 (l ++ [(knew r.client r.num false ans0)]) c34 (fun kb => (fun kb => (fun kb => (fun _ => False) kb ∨ okl kb) kb ∨ (fun kb => (fun _ => False) kb ∨ kb = b33) kb) kb ∨ (Value.slice A34 (l ++ [(knew r.client r.num false ans0)]).length c34).ownBlock = some kb))] (sub_cons (sub_cons (sub_nil _) 2 rfl) 1 rfl)) (rdin_cons (fun k h => h.elim) (rdin_cons (fun k h => Or.elim h (fun h => by rcases h with (h | h) | h | h; exact h.elim; exact .inr (.inl ⟨2, _, rfl, h⟩); exact h.elim; subst h; exact hb33_.elim .inl (fun q => .inr (.inr (.inr q)))) (fun h => (hfrn k h).elim .inl (fun q => .inr (.inr (.inr q))))) rdin_nil)), ?_⟩
     rw [hA_]; exact Rd.nil _ _ _
   ·
    refine w_lit1 33 KnowE (knew r.client r.num false ans0) #[.string (strOfNums r.client), .int .i64 r.num, .bool false, .int .i64 0, .int .i64 0, .slice none 0 0] (fun _ => False) hF hH rfl Tryd.underlying76 ty87 (by simp only [List.map_toArray, List.map_cons, List.map_nil, hF.tmp 32 rfl] <;> rfl) (by decide) (by kernel_rfl) (know_mk (knew r.client r.num false ans0) (Rd.nil _ _ _)) (fun kb hk => hk.elim) ?_
    clear hF hH; intro a w b33 hF hb33_ hH
    clear hS; have hS : SL _ _ := SL.of hH (sub_cons (sub_nil _) 3 rfl); refine ⟨hS, ?_⟩
    refine r_do2 1 5 rfl rfl (by kernel_rfl) rfl rfl rfl rfl ?_ ?_
    ·
     refine w_lit0 KnowE 22 hF hH rfl Tryd.underlying76 ty87 ?_
     clear hF hH; intro a w b22 hF hH
     clear hS; have hS : SL _ _ := SL.of hH (sub_cons (sub_nil _) 3 rfl); refine ⟨hS, ?_⟩
     refine r_do 5 rfl (by kernel_rfl) rfl rfl ?_
     refine w_at hF (x_load1 ty76 (hF.tmp 25 rfl) (blk_cell (hH.at 1 rfl) 0 rfl)) rfl rfl ?_
     clear hF; intro a hF
     clear hS; have hS : SL _ _ := SL.of hH (sub_cons (sub_nil _) 3 rfl); refine ⟨hS, ?_⟩
     refine r_do 6 rfl (by kernel_rfl) rfl rfl ?_
     refine w_append 22 2 (xs := ([])) (ys := l) hF hH rfl Tryd.underlying76 ty87 rfl rfl rfl rfl ((hH.rd 2 rfl)) (by intro k_ hk_; exact .inr hk_) (hF.tmp 22 rfl) (hF.tmp 26 rfl) (by simp only [List.length_nil, List.length_append, List.length_cons]; omega) (by simp only [List.length_nil, List.length_append, List.length_cons, maxLen]; omega) (fun kb => (fun _ => False) kb ∨ okl kb) (fun w' v' h => h) (by rintro k_ (hk_ | hk_); exact .inl hk_; exact .inr hk_) ?_
     clear hF hH; intro a w v27 hF hH
     clear hS; have hS : SL _ _ := SL.of hH (sub_cons (sub_nil _) 3 rfl); refine ⟨hS, ?_⟩
     refine r_do 13 rfl (by kernel_rfl) rfl rfl ?_
     refine w_append 22 33 (xs := ([] ++ l)) (ys := ([(knew r.client r.num false ans0)])) hF hH rfl Tryd.underlying76 ty87 rfl rfl rfl rfl ((hH.rd 33 rfl)) (by intro k_ hk_; exact .inr hk_) (hF.tmp 27 rfl) (hF.tmp 33 rfl) (by simp only [List.length_nil, List.length_append, List.length_cons]; omega) (by simp only [List.length_nil, List.length_append, List.length_cons, maxLen]; omega) (fun kb => (fun kb => (fun _ => False) kb ∨ okl kb) kb ∨ (fun kb => (fun _ => False) kb ∨ kb = b33) kb) (fun w' v' h => h) (by rintro k_ (hk_ | hk_); exact .inl hk_; exact .inr hk_) ?_
     clear hF hH; intro a w v34 hF hH
     clear hS; have hS : SL _ _ := SL.of hH (sub_cons (sub_nil _) 3 rfl); refine ⟨hS, ?_⟩
     obtain ⟨A34, c34, rfl⟩ := (hH.row 22 rfl).form
     refine r_take 14 hF rfl rfl rfl (by kernel_rfl) (by kernel_rfl) (by kernel_rfl) (fun _ _ _ h => h) rfl hS (fun w hS => x_nil (hF.tmp 21 rfl)) rfl ?_; clear hF; intro a hF
     refine r_take 15 hF rfl rfl rfl (by kernel_rfl) (by kernel_rfl) (by kernel_rfl) (fun _ _ _ h => h) rfl hS (fun w hS => x_faddr Tryd.underlying78 rfl ty76 (by decide) (hF.tmp 35 rfl) rfl) rfl ?_; clear hF; intro a hF
     refine r_do 16 rfl (by kernel_rfl) rfl rfl ?_
     refine w_store 1 hH ty76 rfl (hF.tmp 36 rfl) (hF.tmp 34 rfl) rfl (one1 rfl rfl) (by first | decide | exact Nat.le_of_ble_eq_true rfl) ?_
     clear hH; intro w hH
     clear hS; have hS : SL _ _ := SL.of hH (sub_cons (sub_nil _) 3 rfl); refine ⟨hS, ?_⟩
     refine r_end (by kernel_rfl) ?_; clear hS
     refine hK9 _ _ ?_
     refine wp_seq_k fun khK16 hK16 => ?_
     refine wp_region_lit ?_
     refine l_at hF rfl rfl rfl (x_buildS (cells := #[.int .i64 0, .int .i64 0, .slice none 0 0]) (places := #[(0, 1), (1, 1), (2, 1)]) Tryd.underlying68 ty68 (by kernel_rfl) Array.map_empty rfl) ?_; clear hF; intro a hF
     refine wpList_plain rfl fun K hK => ?_
     refine w_storeA 4 hH ty68 rfl (hF.tmp 4 rfl) (hF.tmp 37 rfl) rfl (by simp [Value.cells, Value.oneCell']) rfl ?_
     clear hH; intro w hH
     refine hK _ _ ?_; clear hK K
     refine l_at hF rfl rfl rfl (x_assign rfl) ?_; clear hF; intro a hF
     refine l_at hF rfl rfl rfl (x_assign rfl) ?_; clear hF; intro a hF
     refine wpList_nil ?_
     refine hK16 _ _ ?_
     refine wp_ret ?_
     try simp only [Exit.then, Exit.inBlock]
     rw [List.nil_append] at hH
     have hfrn : ∀ kb, (Value.slice A34 (l ++ [(knew r.client r.num false ans0)]).length c34).ownBlock = some kb → (OwnL [(1, .blk bl (.cells #[.slice Al l.length cl] 78 (0, 0))), (2, .rd_ KnowE Al l cl okl)]) kb ∨ w0.heap.size ≤ kb := fun kb h => hH.mine 22 _ rfl kb h
     have hH := hH.freeze 22 rfl (fun kb => (fun kb => (fun kb => (fun _ => False) kb ∨ okl kb) kb ∨ (fun kb => (fun _ => False) kb ∨ kb = b33) kb) kb ∨ (Value.slice A34 (l ++ [(knew r.client r.num false ans0)]).length c34).ownBlock = some kb) (fun kb => Iff.rfl)
     have hH := hH.subrd 22 rfl 2 (hH.rd 22 rfl) (fun _ h => h)
     obtain ⟨hA_, hF_, hE_, hM_⟩ := ask_new hr0 (.inl hmiss)
     refine fin_ret hF (resctt hF rfl rfl rfl rfl (hH.at 4 rfl) ty68 rfl) ⟨(l ++ [(knew r.client r.num false ans0)]), Asn.all [(1, .blk bl (.cells #[.slice A34 (l ++ [(knew r.client r.num false ans0)]).length c34] 78 (0, 0))), (2, .rd_ KnowE A34 (l ++ [(knew r.client r.num false ans0)]) c34 (fun kb => (fun kb => (fun kb => (fun _ => False) kb ∨ okl kb) kb ∨ (fun kb => (fun _ => False) kb ∨ kb = b33) kb) kb ∨ (Value.slice A34 (l ++ [(knew r.client r.num false ans0)]).length c34).ownBlock = some kb))], none, 0, by rw [hA_, hF_, hE_] <;> rfl, ⟨_, _, _, rfl⟩, by rw [hM_]; exact rel_add hR hb.client (rightQ_parts hr0).2.1 (find_no hfd (by omega)) _ _ _, by simp only [List.length_append, List.length_cons, List.length_nil]; omega, grew_of (hH.sub [(1, .blk bl (.cells #[.slice A34 (l ++ [(knew r.client r.num false ans0)]).length c34] 78 (0, 0))), (2, .rd_ KnowE A34 (l ++ [(knew r.client r.num false ans0)]) c34 (fun kb => (fun kb => (fun kb => (fun _ => False) kb ∨ okl kb) kb ∨ (fun kb => (fun _ => False) kb ∨ kb = b33) kb) kb ∨ (Value.slice A34 (l ++ [(knew r.client r.num false ans0)]).length c34).ownBlock = some kb))] (sub_cons (sub_cons (sub_nil _) 2 rfl) 1 rfl)) (rdin_cons (fun k h => h.elim) (rdin_cons (fun k h => Or.elim h (fun h => by rcases h with (h | h) | h | h; exact h.elim; exact .inr (.inl ⟨2, _, rfl, h⟩); exact h.elim; subst h; exact hb33_.elim .inl (fun q => .inr (.inr (.inr q)))) (fun h => (hfrn k h).elim .inl (fun q => .inr (.inr (.inr q))))) rdin_nil)), ?_⟩
     rw [hA_]; exact Rd.nil _ _ _
    ·
     refine w_at hF (x_load1 ty76 (hF.tmp 25 rfl) (blk_cell (hH.at 1 rfl) 0 rfl)) rfl rfl ?_
     clear hF; intro a hF
     clear hS; have hS : SL _ _ := SL.of hH (sub_cons (sub_nil _) 3 rfl); refine ⟨hS, ?_⟩
     refine r_do 1 rfl (by kernel_rfl) rfl rfl ?_
     refine w_lit0 KnowE 22 hF hH rfl Tryd.underlying76 ty87 ?_
     clear hF hH; intro a w b22 hF hH
     clear hS; have hS : SL _ _ := SL.of hH (sub_cons (sub_nil _) 3 rfl); refine ⟨hS, ?_⟩
     refine r_do 6 rfl (by kernel_rfl) rfl rfl ?_
     refine w_append 22 2 (xs := ([])) (ys := l) hF hH rfl Tryd.underlying76 ty87 rfl rfl rfl rfl ((hH.rd 2 rfl)) (by intro k_ hk_; exact .inr hk_) (hF.tmp 22 rfl) (hF.tmp 26 rfl) (by simp only [List.length_nil, List.length_append, List.length_cons]; omega) (by simp only [List.length_nil, List.length_append, List.length_cons, maxLen]; omega) (fun kb => (fun _ => False) kb ∨ okl kb) (fun w' v' h => h) (by rintro k_ (hk_ | hk_); exact .inl hk_; exact .inr hk_) ?_
     clear hF hH; intro a w v27 hF hH
     clear hS; have hS : SL _ _ := SL.of hH (sub_cons (sub_nil _) 3 rfl); refine ⟨hS, ?_⟩
     refine r_do 13 rfl (by kernel_rfl) rfl rfl ?_
     refine w_append 22 33 (xs := ([] ++ l)) (ys := ([(knew r.client r.num false ans0)])) hF hH rfl Tryd.underlying76 ty87 rfl rfl rfl rfl ((hH.rd 33 rfl)) (by intro k_ hk_; exact .inr hk_) (hF.tmp 27 rfl) (hF.tmp 33 rfl) (by simp only [List.length_nil, List.length_append, List.length_cons]; omega) (by simp only [List.length_nil, List.length_append, List.length_cons, maxLen]; omega) (fun kb => (fun kb => (fun _ => False) kb ∨ okl kb) kb ∨ (fun kb => (fun _ => False) kb ∨ kb = b33) kb) (fun w' v' h => h) (by rintro k_ (hk_ | hk_); exact .inl hk_; exact .inr hk_) ?_
     clear hF hH; intro a w v34 hF hH
     clear hS; have hS : SL _ _ := SL.of hH (sub_cons (sub_nil _) 3 rfl); refine ⟨hS, ?_⟩
     obtain ⟨A34, c34, rfl⟩ := (hH.row 22 rfl).form
     refine r_take 14 hF rfl rfl rfl (by kernel_rfl) (by kernel_rfl) (by kernel_rfl) (fun _ _ _ h => h) rfl hS (fun w hS => x_nil (hF.tmp 21 rfl)) rfl ?_; clear hF; intro a hF
     refine r_take 15 hF rfl rfl rfl (by kernel_rfl) (by kernel_rfl) (by kernel_rfl) (fun _ _ _ h => h) rfl hS (fun w hS => x_faddr Tryd.underlying78 rfl ty76 (by decide) (hF.tmp 35 rfl) rfl) rfl ?_; clear hF; intro a hF
     refine r_do 16 rfl (by kernel_rfl) rfl rfl ?_
     refine w_store 1 hH ty76 rfl (hF.tmp 36 rfl) (hF.tmp 34 rfl) rfl (one1 rfl rfl) (by first | decide | exact Nat.le_of_ble_eq_true rfl) ?_
     clear hH; intro w hH
     clear hS; have hS : SL _ _ := SL.of hH (sub_cons (sub_nil _) 3 rfl); refine ⟨hS, ?_⟩
     refine r_end (by kernel_rfl) ?_; clear hS
     refine hK9 _ _ ?_
     refine wp_seq_k fun khK17 hK17 => ?_
     refine wp_region_lit ?_
     refine l_at hF rfl rfl rfl (x_buildS (cells := #[.int .i64 0, .int .i64 0, .slice none 0 0]) (places := #[(0, 1), (1, 1), (2, 1)]) Tryd.underlying68 ty68 (by kernel_rfl) Array.map_empty rfl) ?_; clear hF; intro a hF
     refine wpList_plain rfl fun K hK => ?_
     refine w_storeA 4 hH ty68 rfl (hF.tmp 4 rfl) (hF.tmp 37 rfl) rfl (by simp [Value.cells, Value.oneCell']) rfl ?_
     clear hH; intro w hH
     refine hK _ _ ?_; clear hK K
     refine l_at hF rfl rfl rfl (x_assign rfl) ?_; clear hF; intro a hF
     refine l_at hF rfl rfl rfl (x_assign rfl) ?_; clear hF; intro a hF
     refine wpList_nil ?_
     refine hK17 _ _ ?_
     refine wp_ret ?_
     try simp only [Exit.then, Exit.inBlock]
     rw [List.nil_append] at hH
     have hfrn : ∀ kb, (Value.slice A34 (l ++ [(knew r.client r.num false ans0)]).length c34).ownBlock = some kb → (OwnL [(1, .blk bl (.cells #[.slice Al l.length cl] 78 (0, 0))), (2, .rd_ KnowE Al l cl okl)]) kb ∨ w0.heap.size ≤ kb := fun kb h => hH.mine 22 _ rfl kb h
     have hH := hH.freeze 22 rfl (fun kb => (fun kb => (fun kb => (fun _ => False) kb ∨ okl kb) kb ∨ (fun kb => (fun _ => False) kb ∨ kb = b33) kb) kb ∨ (Value.slice A34 (l ++ [(knew r.client r.num false ans0)]).length c34).ownBlock = some kb) (fun kb => Iff.rfl)
     have hH := hH.subrd 22 rfl 2 (hH.rd 22 rfl) (fun _ h => h)
     obtain ⟨hA_, hF_, hE_, hM_⟩ := ask_new hr0 (.inl hmiss)
     refine fin_ret hF (resctt hF rfl rfl rfl rfl (hH.at 4 rfl) ty68 rfl) ⟨(l ++ [(knew r.client r.num false ans0)]), Asn.all [(1, .blk bl (.cells #[.slice A34 (l ++ [(knew r.client r.num false ans0)]).length c34] 78 (0, 0))), (2, .rd_ KnowE A34 (l ++ [(knew r.client r.num false ans0)]) c34 (fun kb => (fun kb => (fun kb => (fun _ => False) kb ∨ okl kb) kb ∨ (fun kb => (fun _ => False) kb ∨ kb = b33) kb) kb ∨ (Value.slice A34 (l ++ [(knew r.client r.num false ans0)]).length c34).ownBlock = some kb))], none, 0, by rw [hA_, hF_, hE_] <;> rfl, ⟨_, _, _, rfl⟩, by rw [hM_]; exact rel_add hR hb.client (rightQ_parts hr0).2.1 (find_no hfd (by omega)) _ _ _, by simp only [List.length_append, List.length_cons, List.length_nil]; omega, grew_of (hH.sub [(1, .blk bl (.cells #[.slice A34 (l ++ [(knew r.client r.num false ans0)]).length c34] 78 (0, 0))), (2, .rd_ KnowE A34 (l ++ [(knew r.client r.num false ans0)]) c34 (fun kb => (fun kb => (fun kb => (fun _ => False) kb ∨ okl kb) kb ∨ (fun kb => (fun _ => False) kb ∨ kb = b33) kb) kb ∨ (Value.slice A34 (l ++ [(knew r.client r.num false ans0)]).length c34).ownBlock = some kb))] (sub_cons (sub_cons (sub_nil _) 2 rfl) 1 rfl)) (rdin_cons (fun k h => h.elim) (rdin_cons (fun k h => Or.elim h (fun h => by rcases h with (h | h) | h | h; exact h.elim; exact .inr (.inl ⟨2, _, rfl, h⟩); exact h.elim; subst h; exact hb33_.elim .inl (fun q => .inr (.inr (.inr q)))) (fun h => (hfrn k h).elim .inl (fun q => .inr (.inr (.inr q))))) rdin_nil)), ?_⟩
     rw [hA_]; exact Rd.nil _ _ _
  ·have hk20_4 := hc20; try simp only [Bool.or_eq_true, Bool.and_eq_true, Bool.or_eq_false_iff, Bool.and_eq_false_iff, Bool.not_eq_true', Bool.not_eq_false', decide_eq_true_eq, decide_eq_false_iff_not, Bool.not_true, Bool.not_false] at hc20
   have hfy := find_yes hfd (by omega)
   obtain ⟨hi, hg⟩ := rel_hit hR hfy
   refine wp_skip ?_
   refine hK7 _ _ ?_
   refine wp_seq_k fun khK18 hK18 => ?_
   refine wp_region_lit ?_
   obtain ⟨fA1, fc1, hfr1, hf1_0, hf1_1, hf1_2, hf1_3, hf1_4, hf1_5, hfw1⟩ := rd_know ((hH.rd 2 rfl)) (gknow_some (xs := l) (i := i8) hfy.1 hfy.2.1)
   have hH := hH.subrd 2 rfl 1005 hfr1 (fun _ h => h)
   have hH := hH.subcels 2 rfl 1499 hfw1 (Rd.inok ((hH.rd 2 rfl)) (by omega) _)
   have hH := hH.subcel 2 rfl 1500 hf1_0 (Rd.inok ((hH.rd 2 rfl)) (by omega) _)
   have hH := hH.subcel 2 rfl 1501 hf1_1 (Rd.inok ((hH.rd 2 rfl)) (by omega) _)
   have hH := hH.subcel 2 rfl 1502 hf1_2 (Rd.inok ((hH.rd 2 rfl)) (by omega) _)
   have hH := hH.subcel 2 rfl 1503 hf1_3 (Rd.inok ((hH.rd 2 rfl)) (by omega) _)
   have hH := hH.subcel 2 rfl 1504 hf1_4 (Rd.inok ((hH.rd 2 rfl)) (by omega) _)
   have hH := hH.subcel 2 rfl 1505 hf1_5 (Rd.inok ((hH.rd 2 rfl)) (by omega) _)
   refine l_at hF rfl rfl rfl (x_move (hF.tmp 0 rfl)) ?_; clear hF; intro a hF
   refine l_at hF rfl rfl rfl (x_nil (hF.tmp 38 rfl)) ?_; clear hF; intro a hF
   refine l_at hF rfl rfl rfl (x_faddr Tryd.underlying78 rfl ty76 (by decide) (hF.tmp 39 rfl) rfl) ?_; clear hF; intro a hF
   refine l_at hF rfl rfl rfl (x_load1 ty76 (hF.tmp 40 rfl) (blk_cell (hH.at 1 rfl) 0 rfl)) ?_; clear hF; intro a hF
   refine l_at hF rfl rfl rfl (x_move (hF.tmp 8 rfl)) ?_; clear hF; intro a hF
   refine l_at hF rfl rfl rfl (x_iaddr_A Tryd.underlying76 ty87 ((hH.rd 2 rfl)) (hF.tmp 41 rfl) (hF.tmp 42 rfl) hfy.1 hfy.2.1 _) ?_; clear hF; intro a hF
   refine l_at hF rfl rfl rfl (x_loadn ty87 (hF.tmp 43 rfl) rfl (hH.holds 1499 _ rfl)) ?_; clear hF; intro a hF
   refine wpList_plain rfl fun K hK => ?_
   refine w_alloc 9 hF hH rfl ty87 ?_
   clear hF hH; intro a w b9 hF hH
   refine hK _ _ ?_; clear hK K
   refine wpList_plain rfl fun K hK => ?_
   refine w_storeA 9 hH ty87 rfl (hF.tmp 9 rfl) (hF.tmp 44 rfl) rfl (by simp [Value.cells, Value.oneCell']) rfl ?_
   clear hH; intro w hH
   refine hK _ _ ?_; clear hK K
   refine wpList_nil ?_
   refine hK18 _ _ ?_
   refine wp_seq_k fun khK19 hK19 => ?_
   refine wp_block ?_
   refine wp_seq_k fun khK20 hK20 => ?_
   refine wp_region_lit ?_
   refine l_at hF rfl rfl rfl (x_faddr Tryd.underlying87 rfl ty3 (by decide) (hF.tmp 9 rfl) rfl) ?_; clear hF; intro a hF
   refine l_at hF rfl rfl rfl (x_load1 ty3 (hF.tmp 46 rfl) (blk_cell (hH.at 9 rfl) 1 rfl)) ?_; clear hF; intro a hF
   refine l_at hF rfl rfl rfl (x_faddr Tryd.underlying81 rfl ty3 (by decide) (hF.tmp 3 rfl) rfl) ?_; clear hF; intro a hF
   refine l_at hF rfl rfl rfl (x_load1 ty3 (hF.tmp 48 rfl) (blk_cell (hH.at 3 rfl) 1 rfl)) ?_; clear hF; intro a hF
   refine l_at hF rfl rfl rfl (x_gtr (hF.tmp 47 rfl) (hF.tmp 49 rfl)) ?_; clear hF; intro a hF
   refine l_at hF rfl rfl rfl (x_assign (hF.tmp 50 rfl)) ?_; clear hF; intro a hF
   refine wpList_nil ?_
   refine hK20 _ _ ?_
   refine wp_cond_split (hF.tmp 45 rfl) (fun hc45 => ?_) (fun hc45 => ?_)
   ·have hk45_5 := hc45; try simp only [Bool.or_eq_true, Bool.and_eq_true, Bool.or_eq_false_iff, Bool.and_eq_false_iff, Bool.not_eq_true', Bool.not_eq_false', decide_eq_true_eq, decide_eq_false_iff_not, Bool.not_true, Bool.not_false] at hc45
    refine wp_seq_k fun khK21 hK21 => ?_
    refine wp_region_lit ?_
    refine l_at hF rfl rfl rfl (x_buildS (cells := #[.int .i64 0, .int .i64 0, .slice none 0 0]) (places := #[(0, 1), (1, 1), (2, 1)]) Tryd.underlying68 ty68 (by kernel_rfl) Array.map_empty rfl) ?_; clear hF; intro a hF
    refine wpList_plain rfl fun K hK => ?_
    refine w_storeA 4 hH ty68 rfl (hF.tmp 4 rfl) (hF.tmp 51 rfl) rfl (by simp [Value.cells, Value.oneCell']) rfl ?_
    clear hH; intro w hH
    refine hK _ _ ?_; clear hK K
    refine l_at hF rfl rfl rfl (x_assign rfl) ?_; clear hF; intro a hF
    refine l_at hF rfl rfl rfl (x_assign rfl) ?_; clear hF; intro a hF
    refine wpList_nil ?_
    refine hK21 _ _ ?_
    refine wp_ret ?_
    try simp only [Exit.then, Exit.inBlock]
    obtain ⟨hA_, hF_, hE_, hM_⟩ := ask_late hr0 hi (by rw [hg]; show r.num < (gknow l i8).number; omega)
    refine fin_ret hF (resctt hF rfl rfl rfl rfl (hH.at 4 rfl) ty68 rfl) ⟨l, Asn.all [(1, .blk bl (.cells #[.slice Al l.length cl] 78 (0, 0))), (2, .rd_ KnowE Al l cl okl)], none, 0, by rw [hA_, hF_, hE_] <;> rfl, ⟨_, _, _, rfl⟩, by rw [hM_]; exact hR, by omega, grew_of (hH.sub [(1, .blk bl (.cells #[.slice Al l.length cl] 78 (0, 0))), (2, .rd_ KnowE Al l cl okl)] (sub_cons (sub_cons (sub_nil _) 2 rfl) 1 rfl)) (rdin_cons (fun k h => h.elim) (rdin_cons (fun k h => .inr (.inl ⟨2, _, rfl, h⟩)) rdin_nil)), ?_⟩
    rw [hA_]; exact Rd.nil _ _ _
   ·have hk45_6 := hc45; try simp only [Bool.or_eq_true, Bool.and_eq_true, Bool.or_eq_false_iff, Bool.and_eq_false_iff, Bool.not_eq_true', Bool.not_eq_false', decide_eq_true_eq, decide_eq_false_iff_not, Bool.not_true, Bool.not_false] at hc45
    refine wp_seq_k fun khK22 hK22 => ?_
    refine wp_region_lit ?_
    refine l_at hF rfl rfl rfl (x_faddr Tryd.underlying87 rfl ty3 (by decide) (hF.tmp 9 rfl) rfl) ?_; clear hF; intro a hF
    refine l_at hF rfl rfl rfl (x_load1 ty3 (hF.tmp 53 rfl) (blk_cell (hH.at 9 rfl) 1 rfl)) ?_; clear hF; intro a hF
    refine l_at hF rfl rfl rfl (x_faddr Tryd.underlying81 rfl ty3 (by decide) (hF.tmp 3 rfl) rfl) ?_; clear hF; intro a hF
    refine l_at hF rfl rfl rfl (x_load1 ty3 (hF.tmp 55 rfl) (blk_cell (hH.at 3 rfl) 1 rfl)) ?_; clear hF; intro a hF
    refine l_at hF rfl rfl rfl (x_eql (hF.tmp 54 rfl) (hF.tmp 56 rfl)) ?_; clear hF; intro a hF
    refine l_at hF rfl rfl rfl (x_assign (hF.tmp 57 rfl)) ?_; clear hF; intro a hF
    refine wpList_nil ?_
    refine hK22 _ _ ?_
    refine wp_cond_split (hF.tmp 52 rfl) (fun hc52 => ?_) (fun hc52 => ?_)
    ·have hk52_7 := hc52; try simp only [Bool.or_eq_true, Bool.and_eq_true, Bool.or_eq_false_iff, Bool.and_eq_false_iff, Bool.not_eq_true', Bool.not_eq_false', decide_eq_true_eq, decide_eq_false_iff_not, Bool.not_true, Bool.not_false] at hc52
     refine wp_seq_k fun khK23 hK23 => ?_
     refine r_start [(9, .blk b9 (.cells #[.string (strOfNums (gknow l i8).client), .int .i64 (gknow l i8).number, .bool (gknow l i8).finished, .int .i64 (gknow l i8).ans.outcome, .int .i64 (gknow l i8).ans.err, .slice fA1 (gknow l i8).ans.results.length fc1] 87 (0, 0)))] (by kernel_rfl) hH fun hH => ?_
     have hS : SL [(9, .blk b9 (.cells #[.string (strOfNums (gknow l i8).client), .int .i64 (gknow l i8).number, .bool (gknow l i8).finished, .int .i64 (gknow l i8).ans.outcome, .int .i64 (gknow l i8).ans.err, .slice fA1 (gknow l i8).ans.results.length fc1] 87 (0, 0)))] _ := SL.of hH (sub_cons (sub_nil _) 9 rfl)
     refine r_take 0 hF rfl rfl rfl (by kernel_rfl) (by kernel_rfl) (by kernel_rfl) (fun _ _ _ h => h) rfl hS (fun w hS => x_faddr Tryd.underlying87 rfl ty68 (by decide) (hF.tmp 9 rfl) rfl) rfl ?_; clear hF; intro a hF
     refine r_take 1 hF rfl rfl rfl (by kernel_rfl) (by kernel_rfl) (by kernel_rfl) (fun _ _ _ h => h) rfl hS (fun w hS => x_loadn (cs := #[.int .i64 (gknow l i8).ans.outcome, .int .i64 (gknow l i8).ans.err, .slice fA1 (gknow l i8).ans.results.length fc1]) ty68 (hF.tmp 58 rfl) rfl (blk_sub (SL.at_ hS 9 rfl) 3 3 rfl)) rfl ?_; clear hF; intro a hF
     refine r_take 2 hF rfl rfl rfl (by kernel_rfl) (by kernel_rfl) (by kernel_rfl) (fun _ _ _ h => h) rfl hS (fun w hS => x_faddr Tryd.underlying87 rfl ty4 (by decide) (hF.tmp 9 rfl) rfl) rfl ?_; clear hF; intro a hF
     refine r_take 3 hF rfl rfl rfl (by kernel_rfl) (by kernel_rfl) (by kernel_rfl) (fun _ _ _ h => h) rfl hS (fun w hS => x_load1 ty4 (hF.tmp 60 rfl) (blk_cell (SL.at_ hS 9 rfl) 2 rfl)) rfl ?_; clear hF; intro a hF
     refine r_do 4 rfl (by kernel_rfl) rfl rfl ?_
     refine w_storeA 4 hH ty68 rfl (hF.tmp 4 rfl) (hF.tmp 59 rfl) rfl (by simp [Value.cells, Value.oneCell']) rfl ?_
     clear hH; intro w hH
     clear hS; have hS : SL _ _ := SL.of hH (sub_cons (sub_nil _) 9 rfl); refine ⟨hS, ?_⟩
     refine r_take 5 hF rfl rfl rfl (by kernel_rfl) (by kernel_rfl) (by kernel_rfl) (fun _ _ _ h => h) rfl hS (fun w hS => x_assign (hF.tmp 61 rfl)) rfl ?_; clear hF; intro a hF
     refine r_take 6 hF rfl rfl rfl (by kernel_rfl) (by kernel_rfl) (by kernel_rfl) (fun _ _ _ h => h) rfl hS (fun w hS => x_assign rfl) rfl ?_; clear hF; intro a hF
     refine r_end (by kernel_rfl) ?_; clear hS
     refine hK23 _ _ ?_
     refine wp_ret ?_
     try simp only [Exit.then, Exit.inBlock]
     obtain ⟨hA_, hF_, hE_, hM_⟩ := ask_hit hr0 hi (by rw [hg]; show (gknow l i8).number = r.num; omega)
     refine fin_ret hF (resctt hF rfl rfl rfl rfl (hH.at 4 rfl) ty68 rfl) ⟨l, Asn.all [(1, .blk bl (.cells #[.slice Al l.length cl] 78 (0, 0))), (2, .rd_ KnowE Al l cl okl)], (fA1), fc1, by rw [hA_, hF_, hE_, hg] <;> rfl, ⟨_, _, _, rfl⟩, by rw [hM_]; exact hR, by omega, grew_of (hH.sub [(1, .blk bl (.cells #[.slice Al l.length cl] 78 (0, 0))), (2, .rd_ KnowE Al l cl okl)] (sub_cons (sub_cons (sub_nil _) 2 rfl) 1 rfl)) (rdin_cons (fun k h => h.elim) (rdin_cons (fun k h => .inr (.inl ⟨2, _, rfl, h⟩)) rdin_nil)), ?_⟩
     rw [hA_, hg]; exact (hH.rd 1005 rfl).move (fun _ _ _ => rfl) (fun k hk _ => ⟨2, _, rfl, hk⟩)
    ·have hk52_8 := hc52; try simp only [Bool.or_eq_true, Bool.and_eq_true, Bool.or_eq_false_iff, Bool.and_eq_false_iff, Bool.not_eq_true', Bool.not_eq_false', decide_eq_true_eq, decide_eq_false_iff_not, Bool.not_true, Bool.not_false] at hc52
     refine wp_seq_k fun khK24 hK24 => ?_
     refine wp_region_lit ?_
     refine l_at hF rfl rfl rfl (x_faddr Tryd.underlying87 rfl ty4 (by decide) (hF.tmp 9 rfl) rfl) ?_; clear hF; intro a hF
     refine l_at hF rfl rfl rfl (x_load1 ty4 (hF.tmp 63 rfl) (blk_cell (hH.at 9 rfl) 2 rfl)) ?_; clear hF; intro a hF
     refine l_at hF rfl rfl rfl (x_not (hF.tmp 64 rfl)) ?_; clear hF; intro a hF
     refine l_at hF rfl rfl rfl (x_assign (hF.tmp 65 rfl)) ?_; clear hF; intro a hF
     refine wpList_nil ?_
     refine hK24 _ _ ?_
     refine wp_cond_split (hF.tmp 62 rfl) (fun hc62 => ?_) (fun hc62 => ?_)
     ·have hk62_9 := hc62; try simp only [Bool.or_eq_true, Bool.and_eq_true, Bool.or_eq_false_iff, Bool.and_eq_false_iff, Bool.not_eq_true', Bool.not_eq_false', decide_eq_true_eq, decide_eq_false_iff_not, Bool.not_true, Bool.not_false] at hc62
      refine wp_seq_k fun khK25 hK25 => ?_
      refine wp_region_lit ?_
      refine l_at hF rfl rfl rfl (x_buildS (cells := #[.int .i64 0, .int .i64 0, .slice none 0 0]) (places := #[(0, 1), (1, 1), (2, 1)]) Tryd.underlying68 ty68 (by kernel_rfl) Array.map_empty rfl) ?_; clear hF; intro a hF
      refine wpList_plain rfl fun K hK => ?_
      refine w_storeA 4 hH ty68 rfl (hF.tmp 4 rfl) (hF.tmp 66 rfl) rfl (by simp [Value.cells, Value.oneCell']) rfl ?_
      clear hH; intro w hH
      refine hK _ _ ?_; clear hK K
      refine l_at hF rfl rfl rfl (x_assign rfl) ?_; clear hF; intro a hF
      refine l_at hF rfl rfl rfl (x_assign rfl) ?_; clear hF; intro a hF
      refine wpList_nil ?_
      refine hK25 _ _ ?_
      refine wp_ret ?_
      try simp only [Exit.then, Exit.inBlock]
      obtain ⟨hA_, hF_, hE_, hM_⟩ := ask_busy hr0 hi (by rw [hg]; show ¬ r.num < (gknow l i8).number; omega) (by rw [hg]; show ¬ (gknow l i8).number = r.num; omega) (by rw [hg]; show (gknow l i8).finished = false; first | assumption | simpa using hc62)
      refine fin_ret hF (resctt hF rfl rfl rfl rfl (hH.at 4 rfl) ty68 rfl) ⟨l, Asn.all [(1, .blk bl (.cells #[.slice Al l.length cl] 78 (0, 0))), (2, .rd_ KnowE Al l cl okl)], none, 0, by rw [hA_, hF_, hE_] <;> rfl, ⟨_, _, _, rfl⟩, by rw [hM_]; exact hR, by omega, grew_of (hH.sub [(1, .blk bl (.cells #[.slice Al l.length cl] 78 (0, 0))), (2, .rd_ KnowE Al l cl okl)] (sub_cons (sub_cons (sub_nil _) 2 rfl) 1 rfl)) (rdin_cons (fun k h => h.elim) (rdin_cons (fun k h => .inr (.inl ⟨2, _, rfl, h⟩)) rdin_nil)), ?_⟩
      rw [hA_]; exact Rd.nil _ _ _
     ·have hk62_10 := hc62; try simp only [Bool.or_eq_true, Bool.and_eq_true, Bool.or_eq_false_iff, Bool.and_eq_false_iff, Bool.not_eq_true', Bool.not_eq_false', decide_eq_true_eq, decide_eq_false_iff_not, Bool.not_true, Bool.not_false] at hc62
      refine wp_skip ?_
      refine hK19 _ _ ?_
      refine wp_seq_k fun khK26 hK26 => ?_
      refine wp_region_lit ?_
      refine l_at hF rfl rfl rfl (x_move (hF.tmp 0 rfl)) ?_; clear hF; intro a hF
      refine wpList_plain rfl fun K hK => ?_
      refine w_lit0 KnowE 68 hF hH rfl Tryd.underlying76 ty87 ?_
      clear hF hH; intro a w b68 hF hH
      refine hK _ _ ?_; clear hK K
      refine l_at hF rfl rfl rfl (x_move (hF.tmp 0 rfl)) ?_; clear hF; intro a hF
      refine l_at hF rfl rfl rfl (x_nil (hF.tmp 69 rfl)) ?_; clear hF; intro a hF
      refine l_at hF rfl rfl rfl (x_faddr Tryd.underlying78 rfl ty76 (by decide) (hF.tmp 70 rfl) rfl) ?_; clear hF; intro a hF
      refine l_at hF rfl rfl rfl (x_load1 ty76 (hF.tmp 71 rfl) (blk_cell (hH.at 1 rfl) 0 rfl)) ?_; clear hF; intro a hF
      refine wpList_plain rfl fun K hK => ?_
      refine w_append 68 2 (xs := ([])) (ys := l) hF hH rfl Tryd.underlying76 ty87 rfl rfl rfl rfl ((hH.rd 2 rfl)) (by intro k_ hk_; exact .inr hk_) (hF.tmp 68 rfl) (hF.tmp 72 rfl) (by simp only [List.length_nil, List.length_append, List.length_cons]; omega) (by simp only [List.length_nil, List.length_append, List.length_cons, maxLen]; omega) (fun kb => (fun _ => False) kb ∨ okl kb) (fun w' v' h => h) (by rintro k_ (hk_ | hk_); exact .inl hk_; exact .inr hk_) ?_
      clear hF hH; intro a w v73 hF hH
      refine hK _ _ ?_; clear hK K
      obtain ⟨A73, c73, rfl⟩ := (hH.row 68 rfl).form
      rw [List.nil_append] at hH hF
      refine l_at hF rfl rfl rfl (x_nil (hF.tmp 67 rfl)) ?_; clear hF; intro a hF
      refine l_at hF rfl rfl rfl (x_faddr Tryd.underlying78 rfl ty76 (by decide) (hF.tmp 74 rfl) rfl) ?_; clear hF; intro a hF
      refine wpList_plain rfl fun K hK => ?_
      refine w_store 1 hH ty76 rfl (hF.tmp 75 rfl) (hF.tmp 73 rfl) rfl (one1 rfl rfl) (by first | decide | exact Nat.le_of_ble_eq_true rfl) ?_
      clear hH; intro w hH
      refine hK _ _ ?_; clear hK K
      refine wpList_nil ?_
      refine hK26 _ _ ?_
      refine wp_seq_k fun khK27 hK27 => ?_
      refine r_start [(1, .blk bl (.cells #[.slice A73 l.length c73] 78 (0, 0))), (3, .blk b3 (.cells #[.string (strOfNums r.client), .int .i64 r.num, .slice Ar0 r.ops.length cr0] 81 (0, 0)))] (by kernel_rfl) hH fun hH => ?_
      have hS : SL [(1, .blk bl (.cells #[.slice A73 l.length c73] 78 (0, 0))), (3, .blk b3 (.cells #[.string (strOfNums r.client), .int .i64 r.num, .slice Ar0 r.ops.length cr0] 81 (0, 0)))] _ := SL.of hH (sub_cons (sub_cons (sub_nil _) 3 rfl) 1 rfl)
      refine r_take 0 hF rfl rfl rfl (by kernel_rfl) (by kernel_rfl) (by kernel_rfl) (fun _ _ _ h => h) rfl hS (fun w hS => x_move (hF.tmp 0 rfl)) rfl ?_; clear hF; intro a hF
      refine r_take 1 hF rfl rfl rfl (by kernel_rfl) (by kernel_rfl) (by kernel_rfl) (fun _ _ _ h => h) rfl hS (fun w hS => x_nil (hF.tmp 76 rfl)) rfl ?_; clear hF; intro a hF
      refine r_take 2 hF rfl rfl rfl (by kernel_rfl) (by kernel_rfl) (by kernel_rfl) (fun _ _ _ h => h) rfl hS (fun w hS => x_faddr Tryd.underlying78 rfl ty76 (by decide) (hF.tmp 77 rfl) rfl) rfl ?_; clear hF; intro a hF
      refine r_take 3 hF rfl rfl rfl (by kernel_rfl) (by kernel_rfl) (by kernel_rfl) (fun _ _ _ h => h) rfl hS (fun w hS => x_load1 ty76 (hF.tmp 78 rfl) (blk_cell (SL.at_ hS 1 rfl) 0 rfl)) rfl ?_; clear hF; intro a hF
      refine r_take 4 hF rfl rfl rfl (by kernel_rfl) (by kernel_rfl) (by kernel_rfl) (fun _ _ _ h => h) rfl hS (fun w hS => x_move (hF.tmp 8 rfl)) rfl ?_; clear hF; intro a hF
      refine r_take 5 hF rfl rfl rfl (by kernel_rfl) (by kernel_rfl) (by kernel_rfl) (fun _ _ _ h => h) rfl hS (fun w hS => x_faddr Tryd.underlying81 rfl ty9 (by decide) (hF.tmp 3 rfl) rfl) rfl ?_; clear hF; intro a hF
      refine r_take 6 hF rfl rfl rfl (by kernel_rfl) (by kernel_rfl) (by kernel_rfl) (fun _ _ _ h => h) rfl hS (fun w hS => x_load1 ty9 (hF.tmp 81 rfl) (blk_cell (SL.at_ hS 3 rfl) 0 rfl)) rfl ?_; clear hF; intro a hF
      refine r_take 7 hF rfl rfl rfl (by kernel_rfl) (by kernel_rfl) (by kernel_rfl) (fun _ _ _ h => h) rfl hS (fun w hS => x_faddr Tryd.underlying81 rfl ty3 (by decide) (hF.tmp 3 rfl) rfl) rfl ?_; clear hF; intro a hF
      refine r_take 8 hF rfl rfl rfl (by kernel_rfl) (by kernel_rfl) (by kernel_rfl) (fun _ _ _ h => h) rfl hS (fun w hS => x_load1 ty3 (hF.tmp 83 rfl) (blk_cell (SL.at_ hS 3 rfl) 1 rfl)) rfl ?_; clear hF; intro a hF
      refine r_take 9 hF rfl rfl rfl (by kernel_rfl) (by kernel_rfl) (by kernel_rfl) (fun _ _ _ h => h) rfl hS (fun w hS => x_buildS (cells := #[.string (strOfNums r.client), .int .i64 r.num, .bool false, .int .i64 0, .int .i64 0, .slice none 0 0]) (places := #[(0, 1), (1, 1), (2, 1), (3, 3)]) Tryd.underlying87 ty87 (by kernel_rfl) (by simp only [List.map_toArray, List.map_cons, List.map_nil, hF.tmp 82 rfl, hF.tmp 84 rfl] <;> rfl) rfl) rfl ?_; clear hF; intro a hF
      refine r_take 10 hF rfl rfl rfl (by kernel_rfl) (by kernel_rfl) (by kernel_rfl) (fun _ _ _ h => h) rfl hS (fun w hS => x_iaddr_A Tryd.underlying76 ty87 (Row.rd (ok' := fun k_ => (fun kb => (fun _ => False) kb ∨ okl kb) k_ ∨ (.slice A73 l.length c73 : Value).ownBlock = some k_) (hH.row 68 rfl) (fun _ hk_ _ => .inl hk_) (fun _ hk_ => .inr hk_)) (hF.tmp 79 rfl) (hF.tmp 80 rfl) hfy.1 hfy.2.1 _) rfl ?_; clear hF; intro a hF
      refine r_do 11 rfl (by kernel_rfl) rfl rfl ?_
      refine w_storeEl 68 (Int.toNat i8) 0 (x0 := gknow l i8) (knew r.client r.num false ans0) (fun kb => (fun _ => False) kb ∨ okl kb) hH ty87 rfl (gknow_some hfy.1 hfy.2.1) (hF.tmp 86 rfl) (hF.tmp 85 rfl) rfl (by simp [Value.cells, Value.oneCell']) (by decide) (fun cs hcs => by obtain ⟨A0, c0, rfl, _⟩ := know_cells hcs; exact know_mk (knew r.client r.num false ans0) (Rd.nil _ _ _)) (fun _ h => h) (fun _ h => .inl h) ?_
      clear hH; intro w hH
      clear hS; have hS : SL _ _ := SL.of hH (sub_cons (sub_cons (sub_nil _) 3 rfl) 1 rfl); refine ⟨hS, ?_⟩
      refine r_end (by kernel_rfl) ?_; clear hS
      refine hK27 _ _ ?_
      refine wp_seq_k fun khK28 hK28 => ?_
      refine wp_region_lit ?_
      refine l_at hF rfl rfl rfl (x_buildS (cells := #[.int .i64 0, .int .i64 0, .slice none 0 0]) (places := #[(0, 1), (1, 1), (2, 1)]) Tryd.underlying68 ty68 (by kernel_rfl) Array.map_empty rfl) ?_; clear hF; intro a hF
      refine wpList_plain rfl fun K hK => ?_
      refine w_storeA 4 hH ty68 rfl (hF.tmp 4 rfl) (hF.tmp 87 rfl) rfl (by simp [Value.cells, Value.oneCell']) rfl ?_
      clear hH; intro w hH
      refine hK _ _ ?_; clear hK K
      refine l_at hF rfl rfl rfl (x_assign rfl) ?_; clear hF; intro a hF
      refine l_at hF rfl rfl rfl (x_assign rfl) ?_; clear hF; intro a hF
      refine wpList_nil ?_
      refine hK28 _ _ ?_
      refine wp_ret ?_
      try simp only [Exit.then, Exit.inBlock]
      have hH : Hp (OwnL [(1, .blk bl (.cells #[.slice Al l.length cl] 78 (0, 0))), (2, .rd_ KnowE Al l cl okl)]) w0 w [(1, .blk bl (.cells #[.slice A73 (l.set (Int.toNat i8) (knew r.client r.num false ans0)).length c73] 78 (0, 0))), (2, .rd_ KnowE Al l cl okl), (4, .blk b4 (.cells #[.int .i64 0, .int .i64 0, .slice none 0 0] 68 (0, 0))), (68, .row KnowE 87 (.slice A73 (l.set (Int.toNat i8) (knew r.client r.num false ans0)).length c73) (l.set (Int.toNat i8) (knew r.client r.num false ans0)) (fun kb => (fun _ => False) kb ∨ okl kb))] := by simp only [List.length_set]; exact hH.sub _ (sub_cons (sub_cons (sub_cons (sub_cons (sub_nil _) 68 rfl) 4 rfl) 2 rfl) 1 rfl)
      have hfrn : ∀ kb, (Value.slice A73 (l.set (Int.toNat i8) (knew r.client r.num false ans0)).length c73).ownBlock = some kb → (OwnL [(1, .blk bl (.cells #[.slice Al l.length cl] 78 (0, 0))), (2, .rd_ KnowE Al l cl okl)]) kb ∨ w0.heap.size ≤ kb := fun kb h => hH.mine 68 _ rfl kb h
      have hH := hH.freeze 68 rfl (fun kb => (fun kb => (fun _ => False) kb ∨ okl kb) kb ∨ (Value.slice A73 (l.set (Int.toNat i8) (knew r.client r.num false ans0)).length c73).ownBlock = some kb) (fun kb => Iff.rfl)
      have hH := hH.subrd 68 rfl 2 (hH.rd 68 rfl) (fun _ h => h)
      obtain ⟨hA_, hF_, hE_, hM_⟩ := ask_new hr0 (.inr ⟨hi, by rw [hg]; show ¬ r.num < (gknow l i8).number; omega, by rw [hg]; show ¬ (gknow l i8).number = r.num; omega, by rw [hg]; show (gknow l i8).finished = true; first | assumption | simpa using hc62⟩)
      refine fin_ret hF (resctt hF rfl rfl rfl rfl (hH.at 4 rfl) ty68 rfl) ⟨(l.set (Int.toNat i8) (knew r.client r.num false ans0)), Asn.all [(1, .blk bl (.cells #[.slice A73 (l.set (Int.toNat i8) (knew r.client r.num false ans0)).length c73] 78 (0, 0))), (2, .rd_ KnowE A73 (l.set (Int.toNat i8) (knew r.client r.num false ans0)) c73 (fun kb => (fun kb => (fun _ => False) kb ∨ okl kb) kb ∨ (Value.slice A73 (l.set (Int.toNat i8) (knew r.client r.num false ans0)).length c73).ownBlock = some kb))], none, 0, by rw [hA_, hF_, hE_] <;> rfl, ⟨_, _, _, rfl⟩, by rw [hM_]; exact rel_set hR (gknow_some hfy.1 hfy.2.1) hfy.2.2 _ _ _, by rw [List.length_set]; omega, grew_of (hH.sub [(1, .blk bl (.cells #[.slice A73 (l.set (Int.toNat i8) (knew r.client r.num false ans0)).length c73] 78 (0, 0))), (2, .rd_ KnowE A73 (l.set (Int.toNat i8) (knew r.client r.num false ans0)) c73 (fun kb => (fun kb => (fun _ => False) kb ∨ okl kb) kb ∨ (Value.slice A73 (l.set (Int.toNat i8) (knew r.client r.num false ans0)).length c73).ownBlock = some kb))] (sub_cons (sub_cons (sub_nil _) 2 rfl) 1 rfl)) (rdin_cons (fun k h => h.elim) (rdin_cons (fun k h => Or.elim h (fun h => by rcases h with h | h; exact h.elim; exact .inr (.inl ⟨2, _, rfl, h⟩)) (fun h => (hfrn k h).elim .inl (fun q => .inr (.inr (.inr q))))) rdin_nil)), ?_⟩
      rw [hA_]; exact Rd.nil _ _ _
set_option maxRecDepth 100000 in
set_option maxHeartbeats 1000000 in
theorem kfin_calls (w0 : World) {X : Asn} {bl : Nat} {l : List KnowD} (hX : KnoA 78 bl l X) (hok : X.ok w0) {m : TabM} (hR : Rel l m) (hfew : l.length ≤ 1000) {c : List Int} (hc : Byte c) (n : Int) {y : AnswerD} {oky0 : Nat → Prop} {Ay0 : Option Addr} {cy0 : Nat} (hry0 : Rd ResE w0 oky0 Ay0 y.results cy0) (hiny0 : ∀ k, oky0 k → k < w0.heap.size) (hapy0 : ∀ k, oky0 k → ¬ X.own k) : Calls Tryd.prog 34 #[.pointer (some ⟨bl, 0, none⟩), .string (strOfNums c), .int .i64 n, .agg #[.int .i64 y.outcome, .int .i64 y.err, .slice Ay0 y.results.length cy0]] w0 fun e w' => ∃ (l' : List KnowD) (X' : Asn), e = .returned (.int .i64 (finE m (strOfNums c) n)) ∧ KnoA 78 bl l' X' ∧ Rel l' (finM m (strOfNums c) n y) ∧ l'.length ≤ l.length + 1 ∧ Grew (fun _ => False) oky0 X w0 w' X' := by
 obtain ⟨Al, cl, okl, rfl⟩ := hX
 refine calls_of_wp Tryd.func34 rfl ?_
 have hF := Fr.enter #[.pointer (some ⟨bl, 0, none⟩), .string (strOfNums c), .int .i64 n, .agg #[.int .i64 y.outcome, .int .i64 y.err, .slice Ay0 y.results.length cy0]] 56 (slotsOf [.pointer (some ⟨bl, 0, none⟩), .string (strOfNums c), .int .i64 n, .agg #[.int .i64 y.outcome, .int .i64 y.err, .slice Ay0 y.results.length cy0]] 0) (Nat.le_of_ble_eq_true rfl) (fun i v h => by have h2 := (get_slotsOf _ 0 i v h).2; simpa only [List.getElem?_toArray, Nat.sub_zero] using h2)
 rw [Tryd.ntmps34]
 revert hF; generalize (⟨(#[.pointer (some ⟨bl, 0, none⟩), .string (strOfNums c), .int .i64 n, .agg #[.int .i64 y.outcome, .int .i64 y.err, .slice Ay0 y.results.length cy0]] : Array Value) ++ Array.replicate (56 - (#[.pointer (some ⟨bl, 0, none⟩), .string (strOfNums c), .int .i64 n, .agg #[.int .i64 y.outcome, .int .i64 y.err, .slice Ay0 y.results.length cy0]] : Array Value).size) undef, []⟩ : Act) = a; intro hF
 have hH := Hp.ofAll hok.holds
 have hll := (hH.rd 2 rfl).le; unfold maxLen at hll
 have hH := hH.readable 910 hry0 hiny0 (fun j Y hY k hk hk2 => hapy0 k hk2 ⟨j, Y, hY, hk⟩)
 have hley0 := hry0.le; unfold maxLen at hley0
 refine wp_seq_k fun khK1 hK1 => ?_
 refine wp_region_lit ?_
 refine wpList_plain rfl fun K hK => ?_
 refine w_box 7 hF hH rfl (hF.tmp 3 rfl) ?_
 clear hF hH; intro a w b7 hF hH
 refine hK _ _ ?_; clear hK K
 refine l_at hF rfl rfl rfl (x_assign rfl) ?_; clear hF; intro a hF
 refine wpList_nil ?_
 refine hK1 _ _ ?_
 refine wp_seq_k fun khK2 hK2 => ?_
 refine wp_region_lit ?_
 refine l_at hF rfl rfl rfl (x_move (hF.tmp 0 rfl)) ?_; clear hF; intro a hF
 refine l_at hF rfl rfl rfl (x_move (hF.tmp 1 rfl)) ?_; clear hF; intro a hF
 refine wpList_plain rfl fun K hK => ?_
 refine w_call hF (x_enter Tryd.func63 (by kernel_rfl) rfl (by simp only [List.map_toArray, List.map_cons, List.map_nil, hF.tmp 10 rfl, hF.tmp 11 rfl] <;> rfl)) (kfind_calls (c := c) _ ⟨_, _, _, rfl⟩ (hH.sub [(1, .blk bl (.cells #[.slice Al l.length cl] 78 (0, 0))), (2, .rd_ KnowE Al l cl okl)] (sub_cons (sub_cons (sub_nil _) 2 rfl) 1 rfl)).okAll hc (fun i x h => (hR.byte i x h).1)) rfl rfl ?_
 rintro _ w ⟨i9, rfl, hfd, hm_⟩; refine ⟨_, rfl, ?_⟩; clear hF; intro a hF; have hH := hH.same hm_
 refine hK _ _ ?_; clear hK K
 refine l_at hF rfl rfl rfl (x_assign (hF.tmp 12 rfl)) ?_; clear hF; intro a hF
 refine wpList_nil ?_
 refine hK2 _ _ ?_
 refine wp_seq_k fun khK3 hK3 => ?_
 refine wp_seq_k fun khK4 hK4 => ?_
 refine wp_region_lit ?_
 refine l_at hF rfl rfl rfl (x_move (hF.tmp 9 rfl)) ?_; clear hF; intro a hF
 refine l_at hF rfl rfl rfl (x_lss (hF.tmp 13 rfl) rfl) ?_; clear hF; intro a hF
 refine l_at hF rfl rfl rfl (x_move (hF.tmp 14 rfl)) ?_; clear hF; intro a hF
 refine split_bool hF 15 rfl (fun hb15 => ?_) (fun hb15 => ?_)
 ·have hc15 := hb15; try simp only [Bool.or_eq_true, Bool.and_eq_true, Bool.or_eq_false_iff, Bool.and_eq_false_iff, Bool.not_eq_true', Bool.not_eq_false', decide_eq_true_eq, decide_eq_false_iff_not, Bool.not_true, Bool.not_false] at hc15
  refine l_offg hF ((wanted_of hF rfl rfl rfl rfl).trans (by rw [hb15]; rfl)) rfl rfl ?_; clear hF; intro a hF
  refine l_offg hF ((wanted_of hF rfl rfl rfl rfl).trans (by rw [hb15]; rfl)) rfl rfl ?_; clear hF; intro a hF
  refine l_offg hF ((wanted_of hF rfl rfl rfl rfl).trans (by rw [hb15]; rfl)) rfl rfl ?_; clear hF; intro a hF
  refine l_offg hF ((wanted_of hF rfl rfl rfl rfl).trans (by rw [hb15]; rfl)) rfl rfl ?_; clear hF; intro a hF
  refine l_offg hF ((wanted_of hF rfl rfl rfl rfl).trans (by rw [hb15]; rfl)) rfl rfl ?_; clear hF; intro a hF
  refine l_offg hF ((wanted_of hF rfl rfl rfl rfl).trans (by rw [hb15]; rfl)) rfl rfl ?_; clear hF; intro a hF
  refine l_offg hF ((wanted_of hF rfl rfl rfl rfl).trans (by rw [hb15]; rfl)) rfl rfl ?_; clear hF; intro a hF
  refine l_offg hF ((wanted_of hF rfl rfl rfl rfl).trans (by rw [hb15]; rfl)) rfl rfl ?_; clear hF; intro a hF
  refine l_offg hF ((wanted_of hF rfl rfl rfl rfl).trans (by rw [hb15]; rfl)) rfl rfl ?_; clear hF; intro a hF
  refine l_offg hF ((wanted_of hF rfl rfl rfl rfl).trans (by rw [hb15]; rfl)) rfl rfl ?_; clear hF; intro a hF
  refine l_at hF rfl rfl rfl (x_pickT (hF.tmp 15 rfl) hb15 rfl) ?_; clear hF; intro a hF
  refine l_at hF rfl rfl rfl (x_move (hF.tmp 26 rfl)) ?_; clear hF; intro a hF
  refine l_offg hF ((wanted_of hF rfl rfl rfl rfl).trans rfl) rfl rfl ?_; clear hF; intro a hF
  refine l_offg hF ((wanted_of hF rfl rfl rfl rfl).trans rfl) rfl rfl ?_; clear hF; intro a hF
  refine l_offg hF ((wanted_of hF rfl rfl rfl rfl).trans rfl) rfl rfl ?_; clear hF; intro a hF
  refine l_offg hF ((wanted_of hF rfl rfl rfl rfl).trans rfl) rfl rfl ?_; clear hF; intro a hF
  refine l_offg hF ((wanted_of hF rfl rfl rfl rfl).trans rfl) rfl rfl ?_; clear hF; intro a hF
  refine l_offg hF ((wanted_of hF rfl rfl rfl rfl).trans rfl) rfl rfl ?_; clear hF; intro a hF
  refine l_offg hF ((wanted_of hF rfl rfl rfl rfl).trans rfl) rfl rfl ?_; clear hF; intro a hF
  refine l_offg hF ((wanted_of hF rfl rfl rfl rfl).trans rfl) rfl rfl ?_; clear hF; intro a hF
  refine l_at hF rfl rfl rfl (x_pickT (hF.tmp 27 rfl) rfl rfl) ?_; clear hF; intro a hF
  refine wpList_nil ?_
  refine hK4 _ _ ?_
  refine wp_cond_true (hF.tmp 36 rfl) ?_
  refine wp_seq_k fun khK5 hK5 => ?_
  refine wp_region_lit ?_
  refine l_at hF rfl rfl rfl (x_assign rfl) ?_; clear hF; intro a hF
  refine wpList_nil ?_
  refine hK5 _ _ ?_
  refine wp_ret ?_
  try simp only [Exit.then, Exit.inBlock]
  obtain ⟨hE_, hM_⟩ := fin_no (y := y) (.inl (rel_miss hR hc (find_no hfd (by omega))).1)
  exact fin_ret hF (res1 hF rfl rfl) ⟨l, Asn.all [(1, .blk bl (.cells #[.slice Al l.length cl] 78 (0, 0))), (2, .rd_ KnowE Al l cl okl)], by rw [hE_] <;> rfl, ⟨_, _, _, rfl⟩, by rw [hM_]; exact hR, by omega, grew_of (hH.sub [(1, .blk bl (.cells #[.slice Al l.length cl] 78 (0, 0))), (2, .rd_ KnowE Al l cl okl)] (sub_cons (sub_cons (sub_nil _) 2 rfl) 1 rfl)) (rdin_cons (fun k h => h.elim) (rdin_cons (fun k h => .inr (.inl ⟨2, _, rfl, h⟩)) rdin_nil))⟩
 ·have hc15 := hb15; try simp only [Bool.or_eq_true, Bool.and_eq_true, Bool.or_eq_false_iff, Bool.and_eq_false_iff, Bool.not_eq_true', Bool.not_eq_false', decide_eq_true_eq, decide_eq_false_iff_not, Bool.not_true, Bool.not_false] at hc15
  have hfy := find_yes hfd (by omega)
  obtain ⟨hi, hg⟩ := rel_hit hR hfy
  obtain ⟨fA1, fc1, hfr1, hf1_0, hf1_1, hf1_2, hf1_3, hf1_4, hf1_5, hfw1⟩ := rd_know ((hH.rd 2 rfl)) (gknow_some (xs := l) (i := i9) hfy.1 hfy.2.1)
  have hH := hH.subrd 2 rfl 1005 hfr1 (fun _ h => h)
  have hH := hH.subcels 2 rfl 1499 hfw1 (Rd.inok ((hH.rd 2 rfl)) (by omega) _)
  have hH := hH.subcel 2 rfl 1500 hf1_0 (Rd.inok ((hH.rd 2 rfl)) (by omega) _)
  have hH := hH.subcel 2 rfl 1501 hf1_1 (Rd.inok ((hH.rd 2 rfl)) (by omega) _)
  have hH := hH.subcel 2 rfl 1502 hf1_2 (Rd.inok ((hH.rd 2 rfl)) (by omega) _)
  have hH := hH.subcel 2 rfl 1503 hf1_3 (Rd.inok ((hH.rd 2 rfl)) (by omega) _)
  have hH := hH.subcel 2 rfl 1504 hf1_4 (Rd.inok ((hH.rd 2 rfl)) (by omega) _)
  have hH := hH.subcel 2 rfl 1505 hf1_5 (Rd.inok ((hH.rd 2 rfl)) (by omega) _)
  refine l_atg hF ((wanted_of hF rfl rfl rfl rfl).trans (by rw [hb15]; rfl)) rfl rfl (x_move (hF.tmp 0 rfl)) ?_; clear hF; intro a hF
  refine l_atg hF ((wanted_of hF rfl rfl rfl rfl).trans (by rw [hb15]; rfl)) rfl rfl (x_nil (hF.tmp 16 rfl)) ?_; clear hF; intro a hF
  refine l_atg hF ((wanted_of hF rfl rfl rfl rfl).trans (by rw [hb15]; rfl)) rfl rfl (x_faddr Tryd.underlying78 rfl ty76 (by decide) (hF.tmp 17 rfl) rfl) ?_; clear hF; intro a hF
  refine l_atg hF ((wanted_of hF rfl rfl rfl rfl).trans (by rw [hb15]; rfl)) rfl rfl (x_load1 ty76 (hF.tmp 18 rfl) (blk_cell (hH.at 1 rfl) 0 rfl)) ?_; clear hF; intro a hF
  refine l_atg hF ((wanted_of hF rfl rfl rfl rfl).trans (by rw [hb15]; rfl)) rfl rfl (x_move (hF.tmp 9 rfl)) ?_; clear hF; intro a hF
  refine l_atg hF ((wanted_of hF rfl rfl rfl rfl).trans (by rw [hb15]; rfl)) rfl rfl (x_iaddr_A Tryd.underlying76 ty87 ((hH.rd 2 rfl)) (hF.tmp 19 rfl) (hF.tmp 20 rfl) hfy.1 hfy.2.1 _) ?_; clear hF; intro a hF
  refine l_atg hF ((wanted_of hF rfl rfl rfl rfl).trans (by rw [hb15]; rfl)) rfl rfl (x_faddrA ((hH.rd 2 rfl)) (by omega) _ Tryd.underlying87 rfl ty3 (by decide) (hF.tmp 21 rfl) rfl) ?_; clear hF; intro a hF
  refine l_atg hF ((wanted_of hF rfl rfl rfl rfl).trans (by rw [hb15]; rfl)) rfl rfl (x_load1 ty3 (hF.tmp 22 rfl) (hH.holds 1501 _ rfl)) ?_; clear hF; intro a hF
  refine l_atg hF ((wanted_of hF rfl rfl rfl rfl).trans (by rw [hb15]; rfl)) rfl rfl (x_move (hF.tmp 2 rfl)) ?_; clear hF; intro a hF
  refine l_atg hF ((wanted_of hF rfl rfl rfl rfl).trans (by rw [hb15]; rfl)) rfl rfl (x_neq (hF.tmp 23 rfl) (hF.tmp 24 rfl)) ?_; clear hF; intro a hF
  refine l_at hF rfl rfl rfl (x_pickF (hF.tmp 15 rfl) hb15 (hF.tmp 25 rfl)) ?_; clear hF; intro a hF
  refine l_at hF rfl rfl rfl (x_move (hF.tmp 26 rfl)) ?_; clear hF; intro a hF
  refine split_bool hF 27 rfl (fun hb27 => ?_) (fun hb27 => ?_)
  ·have hc27 := hb27; try simp only [Bool.or_eq_true, Bool.and_eq_true, Bool.or_eq_false_iff, Bool.and_eq_false_iff, Bool.not_eq_true', Bool.not_eq_false', decide_eq_true_eq, decide_eq_false_iff_not, Bool.not_true, Bool.not_false] at hc27
   refine l_offg hF ((wanted_of hF rfl rfl rfl rfl).trans (by rw [hb27]; rfl)) rfl rfl ?_; clear hF; intro a hF
   refine l_offg hF ((wanted_of hF rfl rfl rfl rfl).trans (by rw [hb27]; rfl)) rfl rfl ?_; clear hF; intro a hF
   refine l_offg hF ((wanted_of hF rfl rfl rfl rfl).trans (by rw [hb27]; rfl)) rfl rfl ?_; clear hF; intro a hF
   refine l_offg hF ((wanted_of hF rfl rfl rfl rfl).trans (by rw [hb27]; rfl)) rfl rfl ?_; clear hF; intro a hF
   refine l_offg hF ((wanted_of hF rfl rfl rfl rfl).trans (by rw [hb27]; rfl)) rfl rfl ?_; clear hF; intro a hF
   refine l_offg hF ((wanted_of hF rfl rfl rfl rfl).trans (by rw [hb27]; rfl)) rfl rfl ?_; clear hF; intro a hF
   refine l_offg hF ((wanted_of hF rfl rfl rfl rfl).trans (by rw [hb27]; rfl)) rfl rfl ?_; clear hF; intro a hF
   refine l_offg hF ((wanted_of hF rfl rfl rfl rfl).trans (by rw [hb27]; rfl)) rfl rfl ?_; clear hF; intro a hF
   refine l_at hF rfl rfl rfl (x_pickT (hF.tmp 27 rfl) hb27 rfl) ?_; clear hF; intro a hF
   refine wpList_nil ?_
   refine hK4 _ _ ?_
   refine wp_cond_true (hF.tmp 36 rfl) ?_
   refine wp_seq_k fun khK6 hK6 => ?_
   refine wp_region_lit ?_
   refine l_at hF rfl rfl rfl (x_assign rfl) ?_; clear hF; intro a hF
   refine wpList_nil ?_
   refine hK6 _ _ ?_
   refine wp_ret ?_
   try simp only [Exit.then, Exit.inBlock]
   obtain ⟨hE_, hM_⟩ := fin_no (y := y) (.inr (.inl (by rw [hg]; show ¬ (gknow l i9).number = n; first | assumption | simpa using hc27)))
   exact fin_ret hF (res1 hF rfl rfl) ⟨l, Asn.all [(1, .blk bl (.cells #[.slice Al l.length cl] 78 (0, 0))), (2, .rd_ KnowE Al l cl okl)], by rw [hE_] <;> rfl, ⟨_, _, _, rfl⟩, by rw [hM_]; exact hR, by omega, grew_of (hH.sub [(1, .blk bl (.cells #[.slice Al l.length cl] 78 (0, 0))), (2, .rd_ KnowE Al l cl okl)] (sub_cons (sub_cons (sub_nil _) 2 rfl) 1 rfl)) (rdin_cons (fun k h => h.elim) (rdin_cons (fun k h => .inr (.inl ⟨2, _, rfl, h⟩)) rdin_nil))⟩
  ·have hc27 := hb27; try simp only [Bool.or_eq_true, Bool.and_eq_true, Bool.or_eq_false_iff, Bool.and_eq_false_iff, Bool.not_eq_true', Bool.not_eq_false', decide_eq_true_eq, decide_eq_false_iff_not, Bool.not_true, Bool.not_false] at hc27
   refine l_atg hF ((wanted_of hF rfl rfl rfl rfl).trans (by rw [hb27]; rfl)) rfl rfl (x_move (hF.tmp 0 rfl)) ?_; clear hF; intro a hF
   refine l_atg hF ((wanted_of hF rfl rfl rfl rfl).trans (by rw [hb27]; rfl)) rfl rfl (x_nil (hF.tmp 28 rfl)) ?_; clear hF; intro a hF
   refine l_atg hF ((wanted_of hF rfl rfl rfl rfl).trans (by rw [hb27]; rfl)) rfl rfl (x_faddr Tryd.underlying78 rfl ty76 (by decide) (hF.tmp 29 rfl) rfl) ?_; clear hF; intro a hF
   refine l_atg hF ((wanted_of hF rfl rfl rfl rfl).trans (by rw [hb27]; rfl)) rfl rfl (x_load1 ty76 (hF.tmp 30 rfl) (blk_cell (hH.at 1 rfl) 0 rfl)) ?_; clear hF; intro a hF
   refine l_atg hF ((wanted_of hF rfl rfl rfl rfl).trans (by rw [hb27]; rfl)) rfl rfl (x_move (hF.tmp 9 rfl)) ?_; clear hF; intro a hF
   refine l_atg hF ((wanted_of hF rfl rfl rfl rfl).trans (by rw [hb27]; rfl)) rfl rfl (x_iaddr_A Tryd.underlying76 ty87 ((hH.rd 2 rfl)) (hF.tmp 31 rfl) (hF.tmp 32 rfl) hfy.1 hfy.2.1 _) ?_; clear hF; intro a hF
   refine l_atg hF ((wanted_of hF rfl rfl rfl rfl).trans (by rw [hb27]; rfl)) rfl rfl (x_faddrA ((hH.rd 2 rfl)) (by omega) _ Tryd.underlying87 rfl ty4 (by decide) (hF.tmp 33 rfl) rfl) ?_; clear hF; intro a hF
   refine l_atg hF ((wanted_of hF rfl rfl rfl rfl).trans (by rw [hb27]; rfl)) rfl rfl (x_load1 ty4 (hF.tmp 34 rfl) (hH.holds 1502 _ rfl)) ?_; clear hF; intro a hF
   refine l_at hF rfl rfl rfl (x_pickF (hF.tmp 27 rfl) hb27 (hF.tmp 35 rfl)) ?_; clear hF; intro a hF
   refine wpList_nil ?_
   refine hK4 _ _ ?_
   refine wp_cond_split (hF.tmp 36 rfl) (fun hc36 => ?_) (fun hc36 => ?_)
   ·have hk36_1 := hc36; try simp only [Bool.or_eq_true, Bool.and_eq_true, Bool.or_eq_false_iff, Bool.and_eq_false_iff, Bool.not_eq_true', Bool.not_eq_false', decide_eq_true_eq, decide_eq_false_iff_not, Bool.not_true, Bool.not_false] at hc36
    refine wp_seq_k fun khK7 hK7 => ?_
    refine wp_region_lit ?_
    refine l_at hF rfl rfl rfl (x_assign rfl) ?_; clear hF; intro a hF
    refine wpList_nil ?_
    refine hK7 _ _ ?_
    refine wp_ret ?_
    try simp only [Exit.then, Exit.inBlock]
    obtain ⟨hE_, hM_⟩ := fin_no (y := y) (.inr (.inr (by rw [hg]; show (gknow l i9).finished = true; first | assumption | simpa using hc36)))
    exact fin_ret hF (res1 hF rfl rfl) ⟨l, Asn.all [(1, .blk bl (.cells #[.slice Al l.length cl] 78 (0, 0))), (2, .rd_ KnowE Al l cl okl)], by rw [hE_] <;> rfl, ⟨_, _, _, rfl⟩, by rw [hM_]; exact hR, by omega, grew_of (hH.sub [(1, .blk bl (.cells #[.slice Al l.length cl] 78 (0, 0))), (2, .rd_ KnowE Al l cl okl)] (sub_cons (sub_cons (sub_nil _) 2 rfl) 1 rfl)) (rdin_cons (fun k h => h.elim) (rdin_cons (fun k h => .inr (.inl ⟨2, _, rfl, h⟩)) rdin_nil))⟩
   ·have hk36_2 := hc36; try simp only [Bool.or_eq_true, Bool.and_eq_true, Bool.or_eq_false_iff, Bool.and_eq_false_iff, Bool.not_eq_true', Bool.not_eq_false', decide_eq_true_eq, decide_eq_false_iff_not, Bool.not_true, Bool.not_false] at hc36
    refine wp_skip ?_
    refine hK3 _ _ ?_
    refine wp_seq_k fun khK8 hK8 => ?_
    refine wp_region_lit ?_
    refine l_at hF rfl rfl rfl (x_move (hF.tmp 0 rfl)) ?_; clear hF; intro a hF
    refine wpList_plain rfl fun K hK => ?_
    refine w_lit0 KnowE 38 hF hH rfl Tryd.underlying76 ty87 ?_
    clear hF hH; intro a w b38 hF hH
    refine hK _ _ ?_; clear hK K
    refine l_at hF rfl rfl rfl (x_move (hF.tmp 0 rfl)) ?_; clear hF; intro a hF
    refine l_at hF rfl rfl rfl (x_nil (hF.tmp 39 rfl)) ?_; clear hF; intro a hF
    refine l_at hF rfl rfl rfl (x_faddr Tryd.underlying78 rfl ty76 (by decide) (hF.tmp 40 rfl) rfl) ?_; clear hF; intro a hF
    refine l_at hF rfl rfl rfl (x_load1 ty76 (hF.tmp 41 rfl) (blk_cell (hH.at 1 rfl) 0 rfl)) ?_; clear hF; intro a hF
    refine wpList_plain rfl fun K hK => ?_
    refine w_append 38 2 (xs := ([])) (ys := l) hF hH rfl Tryd.underlying76 ty87 rfl rfl rfl rfl ((hH.rd 2 rfl)) (by intro k_ hk_; exact .inr hk_) (hF.tmp 38 rfl) (hF.tmp 42 rfl) (by simp only [List.length_nil, List.length_append, List.length_cons]; omega) (by simp only [List.length_nil, List.length_append, List.length_cons, maxLen]; omega) (fun kb => (fun _ => False) kb ∨ okl kb) (fun w' v' h => h) (by rintro k_ (hk_ | hk_); exact .inl hk_; exact .inr hk_) ?_
    clear hF hH; intro a w v43 hF hH
    refine hK _ _ ?_; clear hK K
    obtain ⟨A43, c43, rfl⟩ := (hH.row 38 rfl).form
    rw [List.nil_append] at hH hF
    refine l_at hF rfl rfl rfl (x_nil (hF.tmp 37 rfl)) ?_; clear hF; intro a hF
    refine l_at hF rfl rfl rfl (x_faddr Tryd.underlying78 rfl ty76 (by decide) (hF.tmp 44 rfl) rfl) ?_; clear hF; intro a hF
    refine wpList_plain rfl fun K hK => ?_
    refine w_store 1 hH ty76 rfl (hF.tmp 45 rfl) (hF.tmp 43 rfl) rfl (one1 rfl rfl) (by first | decide | exact Nat.le_of_ble_eq_true rfl) ?_
    clear hH; intro w hH
    refine hK _ _ ?_; clear hK K
    refine wpList_nil ?_
    refine hK8 _ _ ?_
    refine wp_seq_k fun khK9 hK9 => ?_
    refine r_start [(1, .blk bl (.cells #[.slice A43 l.length c43] 78 (0, 0))), (7, .blk b7 (.cells #[.int .i64 y.outcome, .int .i64 y.err, .slice Ay0 y.results.length cy0] 68 (0, 0)))] (by kernel_rfl) hH fun hH => ?_
    have hS : SL [(1, .blk bl (.cells #[.slice A43 l.length c43] 78 (0, 0))), (7, .blk b7 (.cells #[.int .i64 y.outcome, .int .i64 y.err, .slice Ay0 y.results.length cy0] 68 (0, 0)))] _ := SL.of hH (sub_cons (sub_cons (sub_nil _) 7 rfl) 1 rfl)
    refine r_take 0 hF rfl rfl rfl (by kernel_rfl) (by kernel_rfl) (by kernel_rfl) (fun _ _ _ h => h) rfl hS (fun w hS => x_move (hF.tmp 0 rfl)) rfl ?_; clear hF; intro a hF
    refine r_take 1 hF rfl rfl rfl (by kernel_rfl) (by kernel_rfl) (by kernel_rfl) (fun _ _ _ h => h) rfl hS (fun w hS => x_nil (hF.tmp 46 rfl)) rfl ?_; clear hF; intro a hF
    refine r_take 2 hF rfl rfl rfl (by kernel_rfl) (by kernel_rfl) (by kernel_rfl) (fun _ _ _ h => h) rfl hS (fun w hS => x_faddr Tryd.underlying78 rfl ty76 (by decide) (hF.tmp 47 rfl) rfl) rfl ?_; clear hF; intro a hF
    refine r_take 3 hF rfl rfl rfl (by kernel_rfl) (by kernel_rfl) (by kernel_rfl) (fun _ _ _ h => h) rfl hS (fun w hS => x_load1 ty76 (hF.tmp 48 rfl) (blk_cell (SL.at_ hS 1 rfl) 0 rfl)) rfl ?_; clear hF; intro a hF
    refine r_take 4 hF rfl rfl rfl (by kernel_rfl) (by kernel_rfl) (by kernel_rfl) (fun _ _ _ h => h) rfl hS (fun w hS => x_move (hF.tmp 9 rfl)) rfl ?_; clear hF; intro a hF
    refine r_take 5 hF rfl rfl rfl (by kernel_rfl) (by kernel_rfl) (by kernel_rfl) (fun _ _ _ h => h) rfl hS (fun w hS => x_move (hF.tmp 1 rfl)) rfl ?_; clear hF; intro a hF
    refine r_take 6 hF rfl rfl rfl (by kernel_rfl) (by kernel_rfl) (by kernel_rfl) (fun _ _ _ h => h) rfl hS (fun w hS => x_move (hF.tmp 2 rfl)) rfl ?_; clear hF; intro a hF
    refine r_take 7 hF rfl rfl rfl (by kernel_rfl) (by kernel_rfl) (by kernel_rfl) (fun _ _ _ h => h) rfl hS (fun w hS => x_loadn ty68 (hF.tmp 7 rfl) rfl (blk_whole (SL.at_ hS 7 rfl))) rfl ?_; clear hF; intro a hF
    refine r_take 8 hF rfl rfl rfl (by kernel_rfl) (by kernel_rfl) (by kernel_rfl) (fun _ _ _ h => h) rfl hS (fun w hS => x_buildS (cells := #[.string (strOfNums c), .int .i64 n, .bool true, .int .i64 y.outcome, .int .i64 y.err, .slice Ay0 y.results.length cy0]) (places := #[(0, 1), (1, 1), (2, 1), (3, 3)]) Tryd.underlying87 ty87 (by kernel_rfl) (by simp only [List.map_toArray, List.map_cons, List.map_nil, hF.tmp 51 rfl, hF.tmp 52 rfl, hF.tmp 53 rfl] <;> rfl) rfl) rfl ?_; clear hF; intro a hF
    refine r_take 9 hF rfl rfl rfl (by kernel_rfl) (by kernel_rfl) (by kernel_rfl) (fun _ _ _ h => h) rfl hS (fun w hS => x_iaddr_A Tryd.underlying76 ty87 (Row.rd (ok' := fun k_ => (fun kb => (fun _ => False) kb ∨ okl kb) k_ ∨ (.slice A43 l.length c43 : Value).ownBlock = some k_) (hH.row 38 rfl) (fun _ hk_ _ => .inl hk_) (fun _ hk_ => .inr hk_)) (hF.tmp 49 rfl) (hF.tmp 50 rfl) hfy.1 hfy.2.1 _) rfl ?_; clear hF; intro a hF
    refine r_do 10 rfl (by kernel_rfl) rfl rfl ?_
    refine w_storeEl 38 (Int.toNat i9) 0 (x0 := gknow l i9) (knew c n true y) (fun kb => (fun kb => (fun _ => False) kb ∨ okl kb) kb ∨ oky0 kb) hH ty87 rfl (gknow_some hfy.1 hfy.2.1) (hF.tmp 55 rfl) (hF.tmp 54 rfl) rfl (by simp [Value.cells, Value.oneCell']) (by decide) (fun cs hcs => by obtain ⟨A0, c0, rfl, _⟩ := know_cells hcs; exact know_mk (knew c n true y) ((hH.rd 910 rfl).move (fun _ _ _ => rfl) (fun _ h _ => .inr h))) (fun _ h => .inl h) (fun k h => Or.elim h (fun h => .inl h) (fun h => .inr ⟨910, _, rfl, rfl, h⟩)) ?_
    clear hH; intro w hH
    clear hS; have hS : SL _ _ := SL.of hH (sub_cons (sub_cons (sub_nil _) 7 rfl) 1 rfl); refine ⟨hS, ?_⟩
    refine r_end (by kernel_rfl) ?_; clear hS
    refine hK9 _ _ ?_
    refine wp_seq_k fun khK10 hK10 => ?_
    refine wp_region_lit ?_
    refine l_at hF rfl rfl rfl (x_assign rfl) ?_; clear hF; intro a hF
    refine wpList_nil ?_
    refine hK10 _ _ ?_
    refine wp_ret ?_
    try simp only [Exit.then, Exit.inBlock]
    have hH : Hp (OwnL [(1, .blk bl (.cells #[.slice Al l.length cl] 78 (0, 0))), (2, .rd_ KnowE Al l cl okl)]) w0 w [(1, .blk bl (.cells #[.slice A43 (l.set (Int.toNat i9) (knew c n true y)).length c43] 78 (0, 0))), (2, .rd_ KnowE Al l cl okl), (7, .blk b7 (.cells #[.int .i64 y.outcome, .int .i64 y.err, .slice Ay0 y.results.length cy0] 68 (0, 0))), (38, .row KnowE 87 (.slice A43 (l.set (Int.toNat i9) (knew c n true y)).length c43) (l.set (Int.toNat i9) (knew c n true y)) (fun kb => (fun kb => (fun _ => False) kb ∨ okl kb) kb ∨ oky0 kb))] := by simp only [List.length_set]; exact hH.sub _ (sub_cons (sub_cons (sub_cons (sub_cons (sub_nil _) 38 rfl) 7 rfl) 2 rfl) 1 rfl)
    have hfrn : ∀ kb, (Value.slice A43 (l.set (Int.toNat i9) (knew c n true y)).length c43).ownBlock = some kb → (OwnL [(1, .blk bl (.cells #[.slice Al l.length cl] 78 (0, 0))), (2, .rd_ KnowE Al l cl okl)]) kb ∨ w0.heap.size ≤ kb := fun kb h => hH.mine 38 _ rfl kb h
    have hH := hH.freeze 38 rfl (fun kb => (fun kb => (fun kb => (fun _ => False) kb ∨ okl kb) kb ∨ oky0 kb) kb ∨ (Value.slice A43 (l.set (Int.toNat i9) (knew c n true y)).length c43).ownBlock = some kb) (fun kb => Iff.rfl)
    have hH := hH.subrd 38 rfl 2 (hH.rd 38 rfl) (fun _ h => h)
    obtain ⟨hE_, hM_⟩ := fin_yes (m := m) (y := y) hi (n := n) (by rw [hg]; show (gknow l i9).number = n; first | assumption | simpa using hc27) (by rw [hg]; show (gknow l i9).finished = false; first | assumption | simpa using hc36)
    exact fin_ret hF (res1 hF rfl rfl) ⟨(l.set (Int.toNat i9) (knew c n true y)), Asn.all [(1, .blk bl (.cells #[.slice A43 (l.set (Int.toNat i9) (knew c n true y)).length c43] 78 (0, 0))), (2, .rd_ KnowE A43 (l.set (Int.toNat i9) (knew c n true y)) c43 (fun kb => (fun kb => (fun kb => (fun _ => False) kb ∨ okl kb) kb ∨ oky0 kb) kb ∨ (Value.slice A43 (l.set (Int.toNat i9) (knew c n true y)).length c43).ownBlock = some kb))], by rw [hE_] <;> rfl, ⟨_, _, _, rfl⟩, by rw [hM_]; exact rel_set hR (gknow_some hfy.1 hfy.2.1) hfy.2.2 _ _ _, by rw [List.length_set]; omega, grew_of (hH.sub [(1, .blk bl (.cells #[.slice A43 (l.set (Int.toNat i9) (knew c n true y)).length c43] 78 (0, 0))), (2, .rd_ KnowE A43 (l.set (Int.toNat i9) (knew c n true y)) c43 (fun kb => (fun kb => (fun kb => (fun _ => False) kb ∨ okl kb) kb ∨ oky0 kb) kb ∨ (Value.slice A43 (l.set (Int.toNat i9) (knew c n true y)).length c43).ownBlock = some kb))] (sub_cons (sub_cons (sub_nil _) 2 rfl) 1 rfl)) (rdin_cons (fun k h => h.elim) (rdin_cons (fun k h => Or.elim h (fun h => by rcases h with (h | h) | h; exact h.elim; exact .inr (.inl ⟨2, _, rfl, h⟩); exact .inr (.inr (.inl h))) (fun h => (hfrn k h).elim .inl (fun q => .inr (.inr (.inr q))))) rdin_nil))⟩
end Go.Proofs.YtiiklnghnifmjaaDoor.Act
