/- Once, walked. -/
import Derived.Test.YtiiklnghnifmjaaDoorTabAZt
import Derived.Test.YtiiklnghnifmjaaDoorTabEZt
set_option linter.unusedVariables false
set_option linter.unusedSimpArgs false
namespace Go.Proofs.YtiiklnghnifmjaaDoor.Act
open Go.RowKit Go.Proofs.YtiiklnghnifmjaaDoor.Sx Go.Proofs.YtiiklnghnifmjaaDoor.Cod Go.Proofs.YtiiklnghnifmjaaDoor.Num
theorem ty64 : TyI Tryd.prog 64 (.agg #[.int .i64 0, .string (strOfNums []), .int .i64 0, .slice none 0 0, .int .i64 0, .int .i64 0, .slice none 0 0]) 7 96 true := ⟨by kernel_rfl, _, Tryd.underlying64, rfl⟩
set_option maxRecDepth 100000 in
set_option maxHeartbeats 1000000 in
theorem fitsY_calls (w0 : World) {x : SActD} {okx0 : Nat → Prop} {Ax0 : Option Addr} {cx0 : Nat} (hrx0 : Rd OpdE w0 okx0 Ax0 x.req.ops cx0) {okx1 : Nat → Prop} {Ax1 : Option Addr} {cx1 : Nat} (hrx1 : Rd ResE w0 okx1 Ax1 x.ans.results cx1) : Calls Tryd.prog 26 #[.agg #[.int .i64 x.kind, .string (strOfNums x.req.client), .int .i64 x.req.num, .slice Ax0 x.req.ops.length cx0, .int .i64 x.ans.outcome, .int .i64 x.ans.err, .slice Ax1 x.ans.results.length cx1]] w0 fun e w' => ∃ b : Bool, e = .returned (.bool b) ∧ (b = true → x.ans.results.length ≤ 40) ∧ Mods (fun _ => False) w0 w' := by
 refine calls_of_wp Tryd.func26 rfl ?_
 have hF := Fr.enter #[.agg #[.int .i64 x.kind, .string (strOfNums x.req.client), .int .i64 x.req.num, .slice Ax0 x.req.ops.length cx0, .int .i64 x.ans.outcome, .int .i64 x.ans.err, .slice Ax1 x.ans.results.length cx1]] 15 (slotsOf [.agg #[.int .i64 x.kind, .string (strOfNums x.req.client), .int .i64 x.req.num, .slice Ax0 x.req.ops.length cx0, .int .i64 x.ans.outcome, .int .i64 x.ans.err, .slice Ax1 x.ans.results.length cx1]] 0) (Nat.le_of_ble_eq_true rfl) (fun i v h => by have h2 := (get_slotsOf _ 0 i v h).2; simpa only [List.getElem?_toArray, Nat.sub_zero] using h2)
 have hH := Hp.nil (fun _ => False) w0
 rw [Tryd.ntmps26]
 revert hF; generalize (⟨(#[.agg #[.int .i64 x.kind, .string (strOfNums x.req.client), .int .i64 x.req.num, .slice Ax0 x.req.ops.length cx0, .int .i64 x.ans.outcome, .int .i64 x.ans.err, .slice Ax1 x.ans.results.length cx1]] : Array Value) ++ Array.replicate (15 - (#[.agg #[.int .i64 x.kind, .string (strOfNums x.req.client), .int .i64 x.req.num, .slice Ax0 x.req.ops.length cx0, .int .i64 x.ans.outcome, .int .i64 x.ans.err, .slice Ax1 x.ans.results.length cx1]] : Array Value).size) undef, []⟩ : Act) = a; intro hF
 have hH := hH.arg 900 hrx0.all (fun _ h => ⟨h, fun h => h⟩)
 have hlex0 := hrx0.le; unfold maxLen at hlex0
 have hH := hH.arg 901 hrx1.all (fun _ h => ⟨h, fun h => h⟩)
 have hlex1 := hrx1.le; unfold maxLen at hlex1
 refine wp_seq_k fun khK1 hK1 => ?_
 refine wp_region_lit ?_
 refine wpList_plain rfl fun K hK => ?_
 refine w_box 1 hF hH rfl (hF.tmp 0 rfl) ?_
 clear hF hH; intro a w b1 hF hH
 refine hK _ _ ?_; clear hK K
 refine l_at hF rfl rfl rfl (x_assign rfl) ?_; clear hF; intro a hF
 refine wpList_nil ?_
 refine hK1 _ _ ?_
 refine wp_seq_k fun khK2 hK2 => ?_
 refine wp_region_lit ?_
 refine l_at hF rfl rfl rfl (x_faddr Tryd.underlying64 rfl ty45 (by decide) (hF.tmp 1 rfl) rfl) ?_; clear hF; intro a hF
 refine l_at hF rfl rfl rfl (x_loadn (cs := #[.string (strOfNums x.req.client), .int .i64 x.req.num, .slice Ax0 x.req.ops.length cx0]) ty45 (hF.tmp 4 rfl) rfl (blk_sub (hH.at 1 rfl) 1 3 rfl)) ?_; clear hF; intro a hF
 refine wpList_plain rfl fun K hK => ?_
 refine w_call hF (x_enter Tryd.func18 (by kernel_rfl) rfl (by simp only [List.map_toArray, List.map_cons, List.map_nil, hF.tmp 5 rfl] <;> rfl)) (fitsQ_calls (r := x.req) _ ((hH.rd 900 rfl))) rfl rfl ?_
 rintro _ w ⟨bq_, rfl, hm_⟩; refine ⟨_, rfl, ?_⟩; clear hF; intro a hF; have hH := hH.same hm_
 refine hK _ _ ?_; clear hK K
 refine l_at hF rfl rfl rfl (x_assign (hF.tmp 6 rfl)) ?_; clear hF; intro a hF
 refine wpList_nil ?_
 refine hK2 _ _ ?_
 refine wp_seq_k fun khK3 hK3 => ?_
 refine wp_region_lit ?_
 refine l_at hF rfl rfl rfl (x_move (hF.tmp 3 rfl)) ?_; clear hF; intro a hF
 refine l_at hF rfl rfl rfl (x_move (hF.tmp 7 rfl)) ?_; clear hF; intro a hF
 refine split_bool hF 8 rfl (fun hb8 => ?_) (fun hb8 => ?_)
 ·have hc8 := hb8; try simp only [Bool.or_eq_true, Bool.and_eq_true, Bool.or_eq_false_iff, Bool.and_eq_false_iff, Bool.not_eq_true', Bool.not_eq_false', decide_eq_true_eq, decide_eq_false_iff_not, Bool.not_true, Bool.not_false] at hc8
  refine l_atg hF ((wanted_of hF rfl rfl rfl rfl).trans (by rw [hb8]; rfl)) rfl rfl (x_faddr Tryd.underlying64 rfl ty62 (by decide) (hF.tmp 1 rfl) rfl) ?_; clear hF; intro a hF
  refine l_atg hF ((wanted_of hF rfl rfl rfl rfl).trans (by rw [hb8]; rfl)) rfl rfl (x_faddr Tryd.underlying62 rfl ty60 (by decide) (hF.tmp 9 rfl) rfl) ?_; clear hF; intro a hF
  refine l_atg hF ((wanted_of hF rfl rfl rfl rfl).trans (by rw [hb8]; rfl)) rfl rfl (x_load1 ty60 (hF.tmp 10 rfl) (blk_cell (hH.at 1 rfl) 6 rfl)) ?_; clear hF; intro a hF
  refine l_atg hF ((wanted_of hF rfl rfl rfl rfl).trans (by rw [hb8]; rfl)) rfl rfl (x_len_slice Tryd.underlying60 (hF.tmp 11 rfl)) ?_; clear hF; intro a hF
  refine l_atg hF ((wanted_of hF rfl rfl rfl rfl).trans (by rw [hb8]; rfl)) rfl rfl (x_leq (hF.tmp 12 rfl) rfl) ?_; clear hF; intro a hF
  refine l_at hF rfl rfl rfl (x_pickT (hF.tmp 8 rfl) hb8 (hF.tmp 13 rfl)) ?_; clear hF; intro a hF
  refine l_at hF rfl rfl rfl (x_assign (hF.tmp 14 rfl)) ?_; clear hF; intro a hF
  refine wpList_nil ?_
  refine hK3 _ _ ?_
  refine wp_ret ?_
  try simp only [Exit.then, Exit.inBlock]
  exact fin_ret hF (res1 (v := .bool (decide ((x.ans.results.length : Int) ≤ 40))) hF rfl rfl) ⟨_, rfl, (by intro h_; first | (have h2_ := of_decide_eq_true h_; omega) | (simp at h_)), hH.mods⟩
 ·have hc8 := hb8; try simp only [Bool.or_eq_true, Bool.and_eq_true, Bool.or_eq_false_iff, Bool.and_eq_false_iff, Bool.not_eq_true', Bool.not_eq_false', decide_eq_true_eq, decide_eq_false_iff_not, Bool.not_true, Bool.not_false] at hc8
  refine l_offg hF ((wanted_of hF rfl rfl rfl rfl).trans (by rw [hb8]; rfl)) rfl rfl ?_; clear hF; intro a hF
  refine l_offg hF ((wanted_of hF rfl rfl rfl rfl).trans (by rw [hb8]; rfl)) rfl rfl ?_; clear hF; intro a hF
  refine l_offg hF ((wanted_of hF rfl rfl rfl rfl).trans (by rw [hb8]; rfl)) rfl rfl ?_; clear hF; intro a hF
  refine l_offg hF ((wanted_of hF rfl rfl rfl rfl).trans (by rw [hb8]; rfl)) rfl rfl ?_; clear hF; intro a hF
  refine l_offg hF ((wanted_of hF rfl rfl rfl rfl).trans (by rw [hb8]; rfl)) rfl rfl ?_; clear hF; intro a hF
  refine l_at hF rfl rfl rfl (x_pickF (hF.tmp 8 rfl) hb8 rfl) ?_; clear hF; intro a hF
  refine l_at hF rfl rfl rfl (x_assign (hF.tmp 14 rfl)) ?_; clear hF; intro a hF
  refine wpList_nil ?_
  refine hK3 _ _ ?_
  refine wp_ret ?_
  try simp only [Exit.then, Exit.inBlock]
  exact fin_ret hF (res1 (v := .bool false) hF rfl rfl) ⟨_, rfl, (by intro h_; first | (have h2_ := of_decide_eq_true h_; omega) | (simp at h_)), hH.mods⟩
set_option maxRecDepth 100000 in
set_option maxHeartbeats 1000000 in
theorem sOnce_calls (w0 : World) {pp : Bool} (hL : LibAt pp w0) {ok : Nat → Prop} {A : Option Addr} {xs : List SActD} {c : Nat} (hr : Rd SactE w0 ok A xs c) (hxb : ∀ x ∈ xs, SActB x) : Calls Tryd.prog 6 #[.slice A xs.length c] w0 fun e w' => e = .returned (.bool true) ∧ Mods (fun _ => False) w0 w' := by
 refine calls_of_wp Tryd.func6 rfl ?_
 have hF := Fr.enter #[.slice A xs.length c] 142 (slotsOf [.slice A xs.length c] 0) (Nat.le_of_ble_eq_true rfl) (fun i v h => by have h2 := (get_slotsOf _ 0 i v h).2; simpa only [List.getElem?_toArray, Nat.sub_zero] using h2)
 have hH := Hp.nil (fun _ => False) w0
 rw [Tryd.ntmps6]
 revert hF; generalize (⟨(#[.slice A xs.length c] : Array Value) ++ Array.replicate (142 - (#[.slice A xs.length c] : Array Value).size) undef, []⟩ : Act) = a; intro hF
 have hH := hH.arg 901 hr.all (fun _ h => ⟨h, fun h => h⟩)
 have hle901 := hr.le; unfold maxLen at hle901
 have hH := hH.libN 990 hL
 refine wp_seq_k fun khK1 hK1 => ?_
 refine wp_region_lit ?_
 refine l_at hF rfl rfl rfl (x_assign rfl) ?_; clear hF; intro a hF
 refine wpList_nil ?_
 refine hK1 _ _ ?_
 refine wp_seq_k fun khK2 hK2 => ?_
 refine wp_region_lit ?_
 refine wpList_plain rfl fun K hK => ?_
 refine w_call hF (x_enter Tryd.func25 (by kernel_rfl) rfl (by simp only [List.map_toArray, List.map_cons, List.map_nil] <;> rfl)) (tnew_calls _) rfl rfl ?_
 rintro _ w ⟨bt, X0, rfl, hX0, hxo_, hm_, hxn_, hxr_⟩; refine ⟨_, rfl, ?_⟩; clear hF; intro a hF; have hH := hH.newX 100 hm_ hxo_ hxn_ (fun k hk => (hxr_ k hk).elim)
 refine hK _ _ ?_; clear hK K
 refine l_at hF rfl rfl rfl (x_assign (hF.tmp 17 rfl)) ?_; clear hF; intro a hF
 refine wpList_nil ?_
 refine hK2 _ _ ?_
 refine wp_seq_k fun khK3 hK3 => ?_
 refine wp_seq_k fun khK4 hK4 => ?_
 refine wp_region_lit ?_
 refine l_at hF rfl rfl rfl (x_move (hF.tmp 3 rfl)) ?_; clear hF; intro a hF
 refine l_at hF rfl rfl rfl (x_ptrnil Tryd.underlying58 (hF.tmp 18 rfl) rfl) ?_; clear hF; intro a hF
 refine wpList_nil ?_
 refine hK4 _ _ ?_
 refine wp_cond_false (hF.tmp 19 rfl) ?_
 refine wp_skip ?_
 refine hK3 _ _ ?_
 refine wp_seq_k fun khK5 hK5 => ?_
 refine wp_region_lit ?_
 refine l_at hF rfl rfl rfl (x_assign rfl) ?_; clear hF; intro a hF
 refine wpList_nil ?_
 refine hK5 _ _ ?_
 refine wp_seq_k fun khK6 hK6 => ?_
 refine wp_region_lit ?_
 refine l_at hF rfl rfl rfl (x_assign rfl) ?_; clear hF; intro a hF
 refine wpList_nil ?_
 refine hK6 _ _ ?_
 refine wp_seq_k fun khK7 hK7 => ?_
 refine wp_region_lit ?_
 refine wpList_plain rfl fun K hK => ?_
 refine w_alloc 6 hF hH rfl ty62 ?_
 clear hF hH; intro a w b6 hF hH
 refine hK _ _ ?_; clear hK K
 have hH := Hp.rdnil hH 906 ResE
 refine wpList_nil ?_
 refine hK7 _ _ ?_
 refine wp_seq_k fun khK8 hK8 => ?_
 refine wp_seq_k fun khK9 hK9 => ?_
 refine wp_region_lit ?_
 refine l_at hF rfl rfl rfl (x_assign rfl) ?_; clear hF; intro a hF
 refine wpList_nil ?_
 refine hK9 _ _ ?_
 refine wp_block ?_
 refine wp_loop_ghost (fun n_ a w => ∃ k : Nat, ∃ X : Asn, ∃ m : TabM, ∃ last : Int, ∃ op : Bool, ∃ t : AnswerD, ∃ At : Option Addr, ∃ ct : Nat, ∃ okt : Nat → Prop, n_ = xs.length - k ∧ (k ≤ xs.length) ∧ (TabA 122 bt m X) ∧ (TabB m) ∧ (onceI m last op t) ∧ (AnsB t) ∧ Fr 142 a [(0, .slice A xs.length c), (3, .pointer (some ⟨bt, 0, none⟩)), (4, .int .i64 last), (5, .bool op), (6, .pointer (some ⟨b6, 0, none⟩)), (7, .int .i64 (k : Int))] ∧ Hp (fun _ => False) w0 w [(901, .rd_ SactE A xs c (fun k => k < w0.heap.size)), (990, .lib pp), (100, X), (6, .blk b6 (.cells #[.int .i64 t.outcome, .int .i64 t.err, .slice At t.results.length ct] 62 (0, 0))), (906, .rd_ ResE At t.results ct okt)]) (xs.length) ?_ ?_
 ·exact ⟨0, X0, [], 0, false, ans0, none, 0, (fun _ => False), rfl, by omega, hX0, tab_nil, once_nil _, ans0_B, ((((((hF.bare.add hF 7 rfl).add hF 6 rfl).add hF 5 rfl).add hF 4 rfl).add hF 3 rfl).add hF 0 rfl), hH.sub _ (sub_cons (sub_cons (sub_cons (sub_cons (sub_cons (sub_nil _) 906 rfl) 6 rfl) 100 rfl) 990 rfl) 901 rfl)⟩
 ·rintro _ a w ⟨k, X, m, last, op, t, At, ct, okt, rfl, hq0_0, hq0_1, hq0_2, hq0_3, hq0_4, hF, hH⟩
  refine wp_seq_k fun khK10 hK10 => ?_
  refine wp_seq_k fun khK11 hK11 => ?_
  refine wp_region_lit ?_
  refine l_at hF rfl rfl rfl (x_move (hF.tmp 7 rfl)) ?_; clear hF; intro a hF
  refine l_at hF rfl rfl rfl (x_move (hF.tmp 0 rfl)) ?_; clear hF; intro a hF
  refine l_at hF rfl rfl rfl (x_len_slice Tryd.underlying57 (hF.tmp 21 rfl)) ?_; clear hF; intro a hF
  refine l_at hF rfl rfl rfl (x_lss (hF.tmp 20 rfl) (hF.tmp 22 rfl)) ?_; clear hF; intro a hF
  refine l_at hF rfl rfl rfl (x_move (hF.tmp 23 rfl)) ?_; clear hF; intro a hF
  refine split_bool hF 24 rfl (fun hb24 => ?_) (fun hb24 => ?_)
  ·have hc24 := hb24; try simp only [Bool.or_eq_true, Bool.and_eq_true, Bool.or_eq_false_iff, Bool.and_eq_false_iff, Bool.not_eq_true', Bool.not_eq_false', decide_eq_true_eq, decide_eq_false_iff_not, Bool.not_true, Bool.not_false] at hc24
   refine l_atg hF ((wanted_of hF rfl rfl rfl rfl).trans (by rw [hb24]; rfl)) rfl rfl (x_move (hF.tmp 7 rfl)) ?_; clear hF; intro a hF
   refine l_atg hF ((wanted_of hF rfl rfl rfl rfl).trans (by rw [hb24]; rfl)) rfl rfl (x_lss (hF.tmp 25 rfl) rfl) ?_; clear hF; intro a hF
   refine l_at hF rfl rfl rfl (x_pickT (hF.tmp 24 rfl) hb24 (hF.tmp 26 rfl)) ?_; clear hF; intro a hF
   refine wpList_nil ?_
   refine hK11 _ _ ?_
   refine wp_cond_split (hF.tmp 27 rfl) (fun hc27 => ?_) (fun hc27 => ?_)
   ·have hk27_1 := hc27; try simp only [Bool.or_eq_true, Bool.and_eq_true, Bool.or_eq_false_iff, Bool.and_eq_false_iff, Bool.not_eq_true', Bool.not_eq_false', decide_eq_true_eq, decide_eq_false_iff_not, Bool.not_true, Bool.not_false] at hc27
    refine wp_skip ?_
    refine hK10 _ _ ?_
    refine wp_seq_k fun khK12 hK12 => ?_
    refine wp_block ?_
    refine wp_seq_k fun khK13 hK13 => ?_
    refine wp_region_lit ?_
    refine l_at hF rfl rfl rfl (x_move (hF.tmp 0 rfl)) ?_; clear hF; intro a hF
    refine l_at hF rfl rfl rfl (x_move (hF.tmp 7 rfl)) ?_; clear hF; intro a hF
    refine l_at hF rfl rfl rfl (x_iaddr_A Tryd.underlying57 ty64 ((hH.rd 901 rfl)) (hF.tmp 30 rfl) (hF.tmp 31 rfl) (by omega) (by omega) _) ?_; clear hF; intro a hF
    obtain ⟨fA1_0, fc1_0, fA1_1, fc1_1, hfr1_0, hfr1_1, hf1_0, hf1_1, hf1_2, hf1_3, hf1_4, hf1_5, hf1_6, hfw1⟩ := rd_sact ((hH.rd 901 rfl)) (gsact_some (xs := xs) (i := (k : Int)) (by omega) (by omega))
    have hH := hH.subrd 901 rfl 1003 hfr1_0 (fun _ h => h)
    have hH := hH.subrd 901 rfl 1006 hfr1_1 (fun _ h => h)
    have hH := hH.subcels 901 rfl 1499 hfw1 (Rd.inok ((hH.rd 901 rfl)) (by omega) _)
    have hH := hH.subcel 901 rfl 1500 hf1_0 (Rd.inok ((hH.rd 901 rfl)) (by omega) _)
    have hH := hH.subcel 901 rfl 1501 hf1_1 (Rd.inok ((hH.rd 901 rfl)) (by omega) _)
    have hH := hH.subcel 901 rfl 1502 hf1_2 (Rd.inok ((hH.rd 901 rfl)) (by omega) _)
    have hH := hH.subcel 901 rfl 1503 hf1_3 (Rd.inok ((hH.rd 901 rfl)) (by omega) _)
    have hH := hH.subcel 901 rfl 1504 hf1_4 (Rd.inok ((hH.rd 901 rfl)) (by omega) _)
    have hH := hH.subcel 901 rfl 1505 hf1_5 (Rd.inok ((hH.rd 901 rfl)) (by omega) _)
    have hH := hH.subcel 901 rfl 1506 hf1_6 (Rd.inok ((hH.rd 901 rfl)) (by omega) _)
    have hbx := hxb _ (gsact_mem (xs := xs) (j := k) (by omega))
    refine l_at hF rfl rfl rfl (x_loadn ty64 (hF.tmp 32 rfl) rfl (hH.holds 1499 _ rfl)) ?_; clear hF; intro a hF
    refine wpList_plain rfl fun K hK => ?_
    refine w_alloc 8 hF hH rfl ty64 ?_
    clear hF hH; intro a w b8 hF hH
    refine hK _ _ ?_; clear hK K
    refine wpList_plain rfl fun K hK => ?_
    refine w_storeA 8 hH ty64 rfl (hF.tmp 8 rfl) (hF.tmp 33 rfl) rfl (by simp [Value.cells, Value.oneCell']) rfl ?_
    clear hH; intro w hH
    refine hK _ _ ?_; clear hK K
    refine wpList_nil ?_
    refine hK13 _ _ ?_
    refine wp_seq_k fun khK14 hK14 => ?_
    refine wp_region_lit ?_
    refine l_at hF rfl rfl rfl (x_loadn ty64 (hF.tmp 8 rfl) rfl (blk_whole (hH.at 8 rfl))) ?_; clear hF; intro a hF
    refine wpList_plain rfl fun K hK => ?_
    refine w_call hF (x_enter Tryd.func26 (by kernel_rfl) rfl (by simp only [List.map_toArray, List.map_cons, List.map_nil, hF.tmp 34 rfl] <;> rfl)) (fitsY_calls (x := (gsact xs (k : Int))) _ ((hH.rd 1003 rfl)) ((hH.rd 1006 rfl))) rfl rfl ?_
    rintro _ w ⟨bf_, rfl, hfit, hm_⟩; refine ⟨_, rfl, ?_⟩; clear hF; intro a hF; have hH := hH.same hm_
    refine hK _ _ ?_; clear hK K
    refine l_at hF rfl rfl rfl (x_assign (hF.tmp 35 rfl)) ?_; clear hF; intro a hF
    refine wpList_nil ?_
    refine hK14 _ _ ?_
    refine wp_seq_k fun khK15 hK15 => ?_
    refine wp_seq_k fun khK16 hK16 => ?_
    refine wp_region_lit ?_
    refine l_at hF rfl rfl rfl (x_move (hF.tmp 9 rfl)) ?_; clear hF; intro a hF
    refine l_at hF rfl rfl rfl (x_not (hF.tmp 36 rfl)) ?_; clear hF; intro a hF
    refine wpList_nil ?_
    refine hK16 _ _ ?_
    refine wp_cond_split (hF.tmp 37 rfl) (fun hc37 => ?_) (fun hc37 => ?_)
    ·have hk37_2 := hc37; try simp only [Bool.or_eq_true, Bool.and_eq_true, Bool.or_eq_false_iff, Bool.and_eq_false_iff, Bool.not_eq_true', Bool.not_eq_false', decide_eq_true_eq, decide_eq_false_iff_not, Bool.not_true, Bool.not_false] at hc37
     refine wp_exit ?_
     refine hK12 _ _ ?_
     refine wp_region_lit ?_
     refine l_at hF rfl rfl rfl (x_move (hF.tmp 7 rfl)) ?_; clear hF; intro a hF
     refine l_at hF rfl rfl rfl (x_add (hF.tmp 28 rfl) rfl (w64 (by omega) (by omega))) ?_; clear hF; intro a hF
     refine l_at hF rfl rfl rfl (x_assign (hF.tmp 29 rfl)) ?_; clear hF; intro a hF
     refine wpList_nil ?_
     exact ⟨_, by omega, ⟨k + 1, X, m, last, op, t, At, ct, okt, rfl, by omega, hq0_1, hq0_2, hq0_3, hq0_4, ((((((hF.bare.add hF 7 rfl).add hF 6 rfl).add hF 5 rfl).add hF 4 rfl).add hF 3 rfl).add hF 0 rfl), hH.sub _ (sub_cons (sub_cons (sub_cons (sub_cons (sub_cons (sub_nil _) 906 rfl) 6 rfl) 100 rfl) 990 rfl) 901 rfl)⟩⟩
    ·have hk37_3 := hc37; try simp only [Bool.or_eq_true, Bool.and_eq_true, Bool.or_eq_false_iff, Bool.and_eq_false_iff, Bool.not_eq_true', Bool.not_eq_false', decide_eq_true_eq, decide_eq_false_iff_not, Bool.not_true, Bool.not_false] at hc37
     have hf40 : (gsact xs (k : Int)).ans.results.length ≤ 40 := hfit (by simpa using hc37)
     refine wp_skip ?_
     refine hK15 _ _ ?_
     refine wp_seq_k fun khK17 hK17 => ?_
     refine wp_region_lit ?_
     refine l_at hF rfl rfl rfl (x_faddr Tryd.underlying64 rfl ty45 (by decide) (hF.tmp 8 rfl) rfl) ?_; clear hF; intro a hF
     refine l_at hF rfl rfl rfl (x_faddr Tryd.underlying45 rfl ty9 (by decide) (hF.tmp 38 rfl) rfl) ?_; clear hF; intro a hF
     refine wpList_plain rfl fun K hK => ?_
     refine w_store 8 hH ty9 rfl (hF.tmp 39 rfl) (show _ = Value.string (strOfNums ([99, 108, 105, 101, 110, 116] : List Int)) by kernel_rfl) rfl (one1 rfl rfl) (by first | decide | exact Nat.le_of_ble_eq_true rfl) ?_
     clear hH; intro w hH
     refine hK _ _ ?_; clear hK K
     refine wpList_nil ?_
     refine hK17 _ _ ?_
     refine wp_seq_k fun khK18 hK18 => ?_
     refine wp_region_lit ?_
     refine l_at hF rfl rfl rfl (x_faddr Tryd.underlying64 rfl ty45 (by decide) (hF.tmp 8 rfl) rfl) ?_; clear hF; intro a hF
     refine l_at hF rfl rfl rfl (x_loadn (cs := #[.string (strOfNums ([99, 108, 105, 101, 110, 116] : List Int)), .int .i64 (gsact xs (k : Int)).req.num, .slice fA1_0 (gsact xs (k : Int)).req.ops.length fc1_0]) ty45 (hF.tmp 40 rfl) rfl (blk_sub (hH.at 8 rfl) 1 3 rfl)) ?_; clear hF; intro a hF
     refine wpList_plain rfl fun K hK => ?_
     refine w_call hF (x_enter Tryd.func21 (by kernel_rfl) rfl (by simp only [List.map_toArray, List.map_cons, List.map_nil, hF.tmp 41 rfl] <;> rfl)) (rightQ_calls (r := (reqC (gsact xs (k : Int)).req)) _ (hH.holds 990 _ rfl) ((hH.rd 1003 rfl)) (reqC_B hbx.req)) rfl rfl ?_
     rintro _ w ⟨rfl, hm_⟩; refine ⟨_, rfl, ?_⟩; clear hF; intro a hF; have hH := hH.same hm_
     refine hK _ _ ?_; clear hK K
     refine l_at hF rfl rfl rfl (x_assign (hF.tmp 42 rfl)) ?_; clear hF; intro a hF
     refine wpList_nil ?_
     refine hK18 _ _ ?_
     refine wp_seq_k fun khK19 hK19 => ?_
     refine wp_region_lit ?_
     refine l_at hF rfl rfl rfl (x_faddr Tryd.underlying64 rfl ty3 (by decide) (hF.tmp 8 rfl) rfl) ?_; clear hF; intro a hF
     refine l_at hF rfl rfl rfl (x_load1 ty3 (hF.tmp 43 rfl) (blk_cell (hH.at 8 rfl) 0 rfl)) ?_; clear hF; intro a hF
     refine wpList_nil ?_
     refine hK19 _ _ ?_
     refine wp_block ?_
     refine wp_seq_k fun khK20 hK20 => ?_
     refine wp_region_lit ?_
     refine l_at hF rfl rfl rfl (x_eql (hF.tmp 44 rfl) rfl) ?_; clear hF; intro a hF
     refine l_at hF rfl rfl rfl (x_assign (hF.tmp 46 rfl)) ?_; clear hF; intro a hF
     refine wpList_nil ?_
     refine hK20 _ _ ?_
     refine wp_cond_split (hF.tmp 45 rfl) (fun hc45 => ?_) (fun hc45 => ?_)
     ·have hk45_4 := hc45; try simp only [Bool.or_eq_true, Bool.and_eq_true, Bool.or_eq_false_iff, Bool.and_eq_false_iff, Bool.not_eq_true', Bool.not_eq_false', decide_eq_true_eq, decide_eq_false_iff_not, Bool.not_true, Bool.not_false] at hc45
      refine wp_seq_k fun khK21 hK21 => ?_
      refine wp_region_lit ?_
      refine l_at hF rfl rfl rfl (x_move (hF.tmp 3 rfl)) ?_; clear hF; intro a hF
      refine l_at hF rfl rfl rfl (x_faddr Tryd.underlying64 rfl ty45 (by decide) (hF.tmp 8 rfl) rfl) ?_; clear hF; intro a hF
      refine l_at hF rfl rfl rfl (x_loadn (cs := #[.string (strOfNums ([99, 108, 105, 101, 110, 116] : List Int)), .int .i64 (gsact xs (k : Int)).req.num, .slice fA1_0 (gsact xs (k : Int)).req.ops.length fc1_0]) ty45 (hF.tmp 49 rfl) rfl (blk_sub (hH.at 8 rfl) 1 3 rfl)) ?_; clear hF; intro a hF
      refine wpList_plain rfl fun K hK => ?_
      refine w_call hF (x_enter Tryd.func27 (by kernel_rfl) rfl (by simp only [List.map_toArray, List.map_cons, List.map_nil, hF.tmp 48 rfl, hF.tmp 50 rfl] <;> rfl)) (ask_calls (r := (reqC (gsact xs (k : Int)).req)) _ (hH.holds 990 _ rfl) hq0_1 (hH.okX 100 rfl) hq0_2 (fun k h hx => hH.sep 100 990 _ _ (by decide) rfl rfl k hx (.inr h)) ((hH.rd 1003 rfl)) (reqC_B hbx.req) (fun k h => hH.inb 1003 _ rfl k (.inr h)) (fun k h hx => hH.sep 100 1003 _ _ (by decide) rfl rfl k hx (.inr h))) rfl rfl ?_
      rintro _ w ⟨X1, vr70, rfl, hX1, hg_, hr_, ha_⟩; refine ⟨_, rfl, ?_⟩; clear hF; intro a hF; have hH := hH.grewRow 100 rfl hg_ (fun k hk => hk.elim) 70 hr_.1 hr_.2 ha_; obtain ⟨Ar70, cr70, rfl⟩ := (hH.row 70 rfl).form
      refine hK _ _ ?_; clear hK K
      refine l_at hF rfl rfl rfl (x_move (hF.tmp 51 rfl)) ?_; clear hF; intro a hF
      refine l_at hF rfl rfl rfl (x_extract (hF.tmp 47 rfl) rfl) ?_; clear hF; intro a hF
      refine l_at hF rfl rfl rfl (x_extract (hF.tmp 47 rfl) rfl) ?_; clear hF; intro a hF
      refine l_at hF rfl rfl rfl (x_extract (hF.tmp 47 rfl) rfl) ?_; clear hF; intro a hF
      refine wpList_plain rfl fun K hK => ?_
      refine w_alloc 11 hF hH rfl ty62 ?_
      clear hF hH; intro a w b11 hF hH
      refine hK _ _ ?_; clear hK K
      refine wpList_plain rfl fun K hK => ?_
      refine w_storeA 11 hH ty62 rfl (hF.tmp 11 rfl) (hF.tmp 52 rfl) rfl (by simp [Value.cells, Value.oneCell']) rfl ?_
      clear hH; intro w hH
      refine hK _ _ ?_; clear hK K
      refine l_at hF rfl rfl rfl (x_assign (hF.tmp 53 rfl)) ?_; clear hF; intro a hF
      refine l_at hF rfl rfl rfl (x_assign (hF.tmp 54 rfl)) ?_; clear hF; intro a hF
      refine wpList_nil ?_
      refine hK21 _ _ ?_
      refine wp_seq_k fun khK22 hK22 => ?_
      refine r_start [(11, .blk b11 (.cells #[.int .i64 (askA m (reqC (gsact xs (k : Int)).req)).outcome, .int .i64 (askA m (reqC (gsact xs (k : Int)).req)).err, .slice Ar70 (askA m (reqC (gsact xs (k : Int)).req)).results.length cr70] 62 (0, 0))), (6, .blk b6 (.cells #[.int .i64 t.outcome, .int .i64 t.err, .slice At t.results.length ct] 62 (0, 0)))] (by kernel_rfl) hH fun hH => ?_
      have hS : SL [(11, .blk b11 (.cells #[.int .i64 (askA m (reqC (gsact xs (k : Int)).req)).outcome, .int .i64 (askA m (reqC (gsact xs (k : Int)).req)).err, .slice Ar70 (askA m (reqC (gsact xs (k : Int)).req)).results.length cr70] 62 (0, 0))), (6, .blk b6 (.cells #[.int .i64 t.outcome, .int .i64 t.err, .slice At t.results.length ct] 62 (0, 0)))] _ := SL.of hH (sub_cons (sub_cons (sub_nil _) 6 rfl) 11 rfl)
      refine r_take 0 hF rfl rfl rfl (by kernel_rfl) (by kernel_rfl) (by kernel_rfl) (fun _ _ _ h => h) rfl hS (fun w hS => x_loadn ty62 (hF.tmp 11 rfl) rfl (blk_whole (SL.at_ hS 11 rfl))) rfl ?_; clear hF; intro a hF
      refine r_take 2 hF rfl rfl rfl (by kernel_rfl) (by kernel_rfl) (by kernel_rfl) (fun _ _ _ h => h) rfl hS (fun w hS => x_loadn ty62 (hF.tmp 6 rfl) rfl (blk_whole (SL.at_ hS 6 rfl))) rfl ?_; clear hF; intro a hF
      refine r_do 1 rfl (by kernel_rfl) rfl rfl ?_
      refine w_call hF (x_enter Tryd.func29 (by kernel_rfl) rfl (by simp only [List.map_toArray, List.map_cons, List.map_nil, hF.tmp 55 rfl] <;> rfl)) (answer_calls (y := (askA m (reqC (gsact xs (k : Int)).req))) _ (Row.rd (ok' := fun k_ => (fun _ => False) k_ ∨ (.slice Ar70 (askA m (reqC (gsact xs (k : Int)).req)).results.length cr70 : Value).ownBlock = some k_) (hH.row 70 rfl) (fun _ hk_ _ => .inl hk_) (fun _ hk_ => .inr hk_))) rfl rfl ?_
      rintro _ w ⟨rfl, hm_⟩; refine ⟨_, rfl, ?_⟩; clear hF; intro a hF; have hH := hH.same hm_
      clear hS; have hS : SL _ _ := SL.of hH (sub_cons (sub_cons (sub_nil _) 6 rfl) 11 rfl); refine ⟨hS, ?_⟩
      refine r_do 3 rfl (by kernel_rfl) rfl rfl ?_
      refine w_call hF (x_enter Tryd.func29 (by kernel_rfl) rfl (by simp only [List.map_toArray, List.map_cons, List.map_nil, hF.tmp 57 rfl] <;> rfl)) (answer_calls (y := t) _ ((hH.rd 906 rfl))) rfl rfl ?_
      rintro _ w ⟨rfl, hm_⟩; refine ⟨_, rfl, ?_⟩; clear hF; intro a hF; have hH := hH.same hm_
      clear hS; have hS : SL _ _ := SL.of hH (sub_cons (sub_cons (sub_nil _) 6 rfl) 11 rfl); refine ⟨hS, ?_⟩
      refine r_do 4 rfl (by kernel_rfl) rfl rfl ?_
      refine w_call hF (x_enter Tryd.func28 (by kernel_rfl) rfl (by simp only [List.map_toArray, List.map_cons, List.map_nil, hF.tmp 56 rfl, hF.tmp 58 rfl] <;> rfl)) (sameA_calls (p := askA m (reqC (gsact xs (k : Int)).req)) (q := t) _ (Row.rd (ok' := fun k_ => (fun _ => False) k_ ∨ (.slice Ar70 (askA m (reqC (gsact xs (k : Int)).req)).results.length cr70 : Value).ownBlock = some k_) (hH.row 70 rfl) (fun _ hk_ _ => .inl hk_) (fun _ hk_ => .inr hk_)) ((hH.rd 906 rfl)) (askA_ok hq0_2 _).1 hq0_4) rfl rfl ?_
      rintro _ w ⟨rfl, hm_⟩; refine ⟨_, rfl, ?_⟩; clear hF; intro a hF; have hH := hH.same hm_
      clear hS; have hS : SL _ _ := SL.of hH (sub_cons (sub_cons (sub_nil _) 6 rfl) 11 rfl); refine ⟨hS, ?_⟩
      refine r_take 5 hF rfl rfl rfl (by kernel_rfl) (by kernel_rfl) (by kernel_rfl) (fun _ _ _ h => h) rfl hS (fun w hS => x_assign (hF.tmp 59 rfl)) rfl ?_; clear hF; intro a hF
      refine r_end (by kernel_rfl) ?_; clear hS
      refine hK22 _ _ ?_
      refine wp_seq_k fun khK23 hK23 => ?_
      refine wp_region_lit ?_
      refine l_at hF rfl rfl rfl (x_faddr Tryd.underlying64 rfl ty45 (by decide) (hF.tmp 8 rfl) rfl) ?_; clear hF; intro a hF
      refine l_at hF rfl rfl rfl (x_faddr Tryd.underlying45 rfl ty3 (by decide) (hF.tmp 60 rfl) rfl) ?_; clear hF; intro a hF
      refine l_at hF rfl rfl rfl (x_load1 ty3 (hF.tmp 61 rfl) (blk_cell (hH.at 8 rfl) 2 rfl)) ?_; clear hF; intro a hF
      refine l_at hF rfl rfl rfl (x_assign (hF.tmp 62 rfl)) ?_; clear hF; intro a hF
      refine wpList_nil ?_
      refine hK23 _ _ ?_
      refine wp_seq_k fun khK24 hK24 => ?_
      refine wp_seq_k fun khK25 hK25 => ?_
      have hJr20 : ∀ a w, Fr 142 a [(0, .slice A xs.length c), (3, .pointer (some ⟨bt, 0, none⟩)), (4, .int .i64 last), (5, .bool op), (6, .pointer (some ⟨b6, 0, none⟩)), (7, .int .i64 (k : Int)), (13, .int .i64 (askE m (reqC (gsact xs (k : Int)).req))), (15, .int .i64 (gsact xs (k : Int)).req.num), (111, .bool false)] → Hp (fun _ => False) w0 w [(901, .rd_ SactE A xs c (fun k => k < w0.heap.size)), (990, .lib pp), (100, X1), (6, .blk b6 (.cells #[.int .i64 t.outcome, .int .i64 t.err, .slice At t.results.length ct] 62 (0, 0))), (906, .rd_ ResE At t.results ct okt), (1003, .rd_ OpdE (fA1_0) (gsact xs (k : Int)).req.ops fc1_0 (fun k => k < w0.heap.size)), (1006, .rd_ ResE (fA1_1) (gsact xs (k : Int)).ans.results fc1_1 (fun k => k < w0.heap.size)), (1499, .cels (adr A (Int.toNat (k : Int) * 7)) #[.int .i64 (gsact xs (k : Int)).kind, .string (strOfNums (gsact xs (k : Int)).req.client), .int .i64 (gsact xs (k : Int)).req.num, .slice fA1_0 (gsact xs (k : Int)).req.ops.length fc1_0, .int .i64 (gsact xs (k : Int)).ans.outcome, .int .i64 (gsact xs (k : Int)).ans.err, .slice fA1_1 (gsact xs (k : Int)).ans.results.length fc1_1]), (1500, .cel (adr A (Int.toNat (k : Int) * 7)) (.int .i64 (gsact xs (k : Int)).kind)), (1501, .cel (adr A (Int.toNat (k : Int) * 7 + 1)) (.string (strOfNums (gsact xs (k : Int)).req.client))), (1502, .cel (adr A (Int.toNat (k : Int) * 7 + 2)) (.int .i64 (gsact xs (k : Int)).req.num)), (1503, .cel (adr A (Int.toNat (k : Int) * 7 + 3)) (.slice fA1_0 (gsact xs (k : Int)).req.ops.length fc1_0)), (1504, .cel (adr A (Int.toNat (k : Int) * 7 + 4)) (.int .i64 (gsact xs (k : Int)).ans.outcome)), (1505, .cel (adr A (Int.toNat (k : Int) * 7 + 5)) (.int .i64 (gsact xs (k : Int)).ans.err)), (1506, .cel (adr A (Int.toNat (k : Int) * 7 + 6)) (.slice fA1_1 (gsact xs (k : Int)).ans.results.length fc1_1)), (8, .blk b8 (.cells #[.int .i64 (gsact xs (k : Int)).kind, .string (strOfNums ([99, 108, 105, 101, 110, 116] : List Int)), .int .i64 (gsact xs (k : Int)).req.num, .slice fA1_0 (gsact xs (k : Int)).req.ops.length fc1_0, .int .i64 (gsact xs (k : Int)).ans.outcome, .int .i64 (gsact xs (k : Int)).ans.err, .slice fA1_1 (gsact xs (k : Int)).ans.results.length fc1_1] 64 (0, 0))), (70, .row ResE 84 (.slice Ar70 (askA m (reqC (gsact xs (k : Int)).req)).results.length cr70) ((askA m (reqC (gsact xs (k : Int)).req)).results) (fun _ => False)), (11, .blk b11 (.cells #[.int .i64 (askA m (reqC (gsact xs (k : Int)).req)).outcome, .int .i64 (askA m (reqC (gsact xs (k : Int)).req)).err, .slice Ar70 (askA m (reqC (gsact xs (k : Int)).req)).results.length cr70] 62 (0, 0)))] → khK25 a w := by
       intro a w  hF hH
       refine hK25 a w ?_
       refine wp_cond_false (hF.tmp 111 rfl) ?_
       refine wp_skip ?_
       refine hK24 _ _ ?_
       refine wp_seq_k fun khK26 hK26 => ?_
       refine wp_region_lit ?_
       refine l_at hF rfl rfl rfl (x_move (hF.tmp 13 rfl)) ?_; clear hF; intro a hF
       refine l_at hF rfl rfl rfl (x_eql (hF.tmp 112 rfl) rfl) ?_; clear hF; intro a hF
       refine l_at hF rfl rfl rfl (x_move (hF.tmp 113 rfl)) ?_; clear hF; intro a hF
       refine split_bool hF 114 rfl (fun hb114 => ?_) (fun hb114 => ?_)
       ·have hc114 := hb114; try simp only [Bool.or_eq_true, Bool.and_eq_true, Bool.or_eq_false_iff, Bool.and_eq_false_iff, Bool.not_eq_true', Bool.not_eq_false', decide_eq_true_eq, decide_eq_false_iff_not, Bool.not_true, Bool.not_false] at hc114
        refine l_atg hF ((wanted_of hF rfl rfl rfl rfl).trans (by rw [hb114]; rfl)) rfl rfl (x_move (hF.tmp 15 rfl)) ?_; clear hF; intro a hF
        refine l_atg hF ((wanted_of hF rfl rfl rfl rfl).trans (by rw [hb114]; rfl)) rfl rfl (x_move (hF.tmp 4 rfl)) ?_; clear hF; intro a hF
        refine l_atg hF ((wanted_of hF rfl rfl rfl rfl).trans (by rw [hb114]; rfl)) rfl rfl (x_gtr (hF.tmp 115 rfl) (hF.tmp 116 rfl)) ?_; clear hF; intro a hF
        refine l_at hF rfl rfl rfl (x_pickT (hF.tmp 114 rfl) hb114 (hF.tmp 117 rfl)) ?_; clear hF; intro a hF
        refine wpList_nil ?_
        refine hK26 _ _ ?_
        refine wp_cond_split (hF.tmp 118 rfl) (fun hc118 => ?_) (fun hc118 => ?_)
        ·have hk118_5 := hc118; try simp only [Bool.or_eq_true, Bool.and_eq_true, Bool.or_eq_false_iff, Bool.and_eq_false_iff, Bool.not_eq_true', Bool.not_eq_false', decide_eq_true_eq, decide_eq_false_iff_not, Bool.not_true, Bool.not_false] at hc118
         refine wp_seq_k fun khK27 hK27 => ?_
         refine wp_region_lit ?_
         refine l_at hF rfl rfl rfl (x_move (hF.tmp 15 rfl)) ?_; clear hF; intro a hF
         refine l_at hF rfl rfl rfl (x_assign (hF.tmp 119 rfl)) ?_; clear hF; intro a hF
         refine wpList_nil ?_
         refine hK27 _ _ ?_
         refine wp_seq_k fun khK28 hK28 => ?_
         refine wp_region_lit ?_
         refine l_at hF rfl rfl rfl (x_assign rfl) ?_; clear hF; intro a hF
         refine wpList_nil ?_
         refine hK28 _ _ ?_
         refine wp_region_lit ?_
         refine l_at hF rfl rfl rfl (x_buildS (cells := #[.int .i64 0, .int .i64 0, .slice none 0 0]) (places := #[(0, 1), (1, 1), (2, 1)]) Tryd.underlying62 ty62 (by kernel_rfl) Array.map_empty rfl) ?_; clear hF; intro a hF
         refine wpList_plain rfl fun K hK => ?_
         refine w_storeA 6 hH ty62 rfl (hF.tmp 6 rfl) (hF.tmp 120 rfl) rfl (by simp [Value.cells, Value.oneCell']) rfl ?_
         clear hH; intro w hH
         refine hK _ _ ?_; clear hK K
         have hH := Hp.rdnil hH 906 ResE
         refine wpList_nil ?_
         refine hK12 _ _ ?_
         refine wp_region_lit ?_
         refine l_at hF rfl rfl rfl (x_move (hF.tmp 7 rfl)) ?_; clear hF; intro a hF
         refine l_at hF rfl rfl rfl (x_add (hF.tmp 28 rfl) rfl (w64 (by omega) (by omega))) ?_; clear hF; intro a hF
         refine l_at hF rfl rfl rfl (x_assign (hF.tmp 29 rfl)) ?_; clear hF; intro a hF
         refine wpList_nil ?_
         exact ⟨_, by omega, ⟨k + 1, X1, (askM m (reqC (gsact xs (k : Int)).req)), ((gsact xs (k : Int)).req.num), true, ans0, none, 0, (fun _ => False), rfl, by omega, hX1, (ask_ok hq0_2 (reqC (gsact xs (k : Int)).req)), (once_ask (r := (gsact xs (k : Int)).req) hq0_3).1 (by first | exact ⟨by assumption, by omega⟩ | simp_all | omega), ans0_B, ((((((hF.bare.add hF 7 rfl).add hF 6 rfl).add hF 5 rfl).add hF 4 rfl).add hF 3 rfl).add hF 0 rfl), hH.sub _ (sub_cons (sub_cons (sub_cons (sub_cons (sub_cons (sub_nil _) 906 rfl) 6 rfl) 100 rfl) 990 rfl) 901 rfl)⟩⟩
        ·have hk118_6 := hc118; try simp only [Bool.or_eq_true, Bool.and_eq_true, Bool.or_eq_false_iff, Bool.and_eq_false_iff, Bool.not_eq_true', Bool.not_eq_false', decide_eq_true_eq, decide_eq_false_iff_not, Bool.not_true, Bool.not_false] at hc118
         refine wp_skip ?_
         refine hK12 _ _ ?_
         refine wp_region_lit ?_
         refine l_at hF rfl rfl rfl (x_move (hF.tmp 7 rfl)) ?_; clear hF; intro a hF
         refine l_at hF rfl rfl rfl (x_add (hF.tmp 28 rfl) rfl (w64 (by omega) (by omega))) ?_; clear hF; intro a hF
         refine l_at hF rfl rfl rfl (x_assign (hF.tmp 29 rfl)) ?_; clear hF; intro a hF
         refine wpList_nil ?_
         exact ⟨_, by omega, ⟨k + 1, X1, (askM m (reqC (gsact xs (k : Int)).req)), last, op, t, At, ct, okt, rfl, by omega, hX1, (ask_ok hq0_2 (reqC (gsact xs (k : Int)).req)), (once_ask (r := (gsact xs (k : Int)).req) hq0_3).2 (by first | exact ⟨by assumption, by omega⟩ | simp_all | omega), hq0_4, ((((((hF.bare.add hF 7 rfl).add hF 6 rfl).add hF 5 rfl).add hF 4 rfl).add hF 3 rfl).add hF 0 rfl), hH.sub _ (sub_cons (sub_cons (sub_cons (sub_cons (sub_cons (sub_nil _) 906 rfl) 6 rfl) 100 rfl) 990 rfl) 901 rfl)⟩⟩
       ·have hc114 := hb114; try simp only [Bool.or_eq_true, Bool.and_eq_true, Bool.or_eq_false_iff, Bool.and_eq_false_iff, Bool.not_eq_true', Bool.not_eq_false', decide_eq_true_eq, decide_eq_false_iff_not, Bool.not_true, Bool.not_false] at hc114
        refine l_offg hF ((wanted_of hF rfl rfl rfl rfl).trans (by rw [hb114]; rfl)) rfl rfl ?_; clear hF; intro a hF
        refine l_offg hF ((wanted_of hF rfl rfl rfl rfl).trans (by rw [hb114]; rfl)) rfl rfl ?_; clear hF; intro a hF
        refine l_offg hF ((wanted_of hF rfl rfl rfl rfl).trans (by rw [hb114]; rfl)) rfl rfl ?_; clear hF; intro a hF
        refine l_at hF rfl rfl rfl (x_pickF (hF.tmp 114 rfl) hb114 rfl) ?_; clear hF; intro a hF
        refine wpList_nil ?_
        refine hK26 _ _ ?_
        refine wp_cond_false (hF.tmp 118 rfl) ?_
        refine wp_skip ?_
        refine hK12 _ _ ?_
        refine wp_region_lit ?_
        refine l_at hF rfl rfl rfl (x_move (hF.tmp 7 rfl)) ?_; clear hF; intro a hF
        refine l_at hF rfl rfl rfl (x_add (hF.tmp 28 rfl) rfl (w64 (by omega) (by omega))) ?_; clear hF; intro a hF
        refine l_at hF rfl rfl rfl (x_assign (hF.tmp 29 rfl)) ?_; clear hF; intro a hF
        refine wpList_nil ?_
        exact ⟨_, by omega, ⟨k + 1, X1, (askM m (reqC (gsact xs (k : Int)).req)), last, op, t, At, ct, okt, rfl, by omega, hX1, (ask_ok hq0_2 (reqC (gsact xs (k : Int)).req)), (once_ask (r := (gsact xs (k : Int)).req) hq0_3).2 (by first | exact ⟨by assumption, by omega⟩ | simp_all | omega), hq0_4, ((((((hF.bare.add hF 7 rfl).add hF 6 rfl).add hF 5 rfl).add hF 4 rfl).add hF 3 rfl).add hF 0 rfl), hH.sub _ (sub_cons (sub_cons (sub_cons (sub_cons (sub_cons (sub_nil _) 906 rfl) 6 rfl) 100 rfl) 990 rfl) 901 rfl)⟩⟩
      refine wp_region_lit ?_
      refine l_at hF rfl rfl rfl (x_move (hF.tmp 10 rfl)) ?_; clear hF; intro a hF
      refine l_at hF rfl rfl rfl (x_move (hF.tmp 63 rfl)) ?_; clear hF; intro a hF
      refine split_bool hF 64 rfl (fun hb64 => ?_) (fun hb64 => ?_)
      ·have hc64 := hb64; try simp only [Bool.or_eq_true, Bool.and_eq_true, Bool.or_eq_false_iff, Bool.and_eq_false_iff, Bool.not_eq_true', Bool.not_eq_false', decide_eq_true_eq, decide_eq_false_iff_not, Bool.not_true, Bool.not_false] at hc64
       refine l_atg hF ((wanted_of hF rfl rfl rfl rfl).trans (by rw [hb64]; rfl)) rfl rfl (x_move (hF.tmp 15 rfl)) ?_; clear hF; intro a hF
       refine l_atg hF ((wanted_of hF rfl rfl rfl rfl).trans (by rw [hb64]; rfl)) rfl rfl (x_move (hF.tmp 4 rfl)) ?_; clear hF; intro a hF
       refine l_atg hF ((wanted_of hF rfl rfl rfl rfl).trans (by rw [hb64]; rfl)) rfl rfl (x_gtr (hF.tmp 65 rfl) (hF.tmp 66 rfl)) ?_; clear hF; intro a hF
       refine l_at hF rfl rfl rfl (x_pickT (hF.tmp 64 rfl) hb64 (hF.tmp 67 rfl)) ?_; clear hF; intro a hF
       refine l_at hF rfl rfl rfl (x_move (hF.tmp 68 rfl)) ?_; clear hF; intro a hF
       refine split_bool hF 69 rfl (fun hb69 => ?_) (fun hb69 => ?_)
       ·have hc69 := hb69; try simp only [Bool.or_eq_true, Bool.and_eq_true, Bool.or_eq_false_iff, Bool.and_eq_false_iff, Bool.not_eq_true', Bool.not_eq_false', decide_eq_true_eq, decide_eq_false_iff_not, Bool.not_true, Bool.not_false] at hc69
        refine l_atg hF ((wanted_of hF rfl rfl rfl rfl).trans (by rw [hb69]; rfl)) rfl rfl (x_move (hF.tmp 5 rfl)) ?_; clear hF; intro a hF
        refine l_atg hF ((wanted_of hF rfl rfl rfl rfl).trans (by rw [hb69]; rfl)) rfl rfl (x_move (hF.tmp 13 rfl)) ?_; clear hF; intro a hF
        refine l_atg hF ((wanted_of hF rfl rfl rfl rfl).trans (by rw [hb69]; rfl)) rfl rfl (x_eql (hF.tmp 71 rfl) rfl) ?_; clear hF; intro a hF
        refine l_atg hF ((wanted_of hF rfl rfl rfl rfl).trans (by rw [hb69]; rfl)) rfl rfl (x_neb (hF.tmp 70 rfl) (hF.tmp 72 rfl) Tryd.underlying4) ?_; clear hF; intro a hF
        refine l_at hF rfl rfl rfl (x_pickT (hF.tmp 69 rfl) hb69 (hF.tmp 73 rfl)) ?_; clear hF; intro a hF
        refine l_at hF rfl rfl rfl (x_move (hF.tmp 74 rfl)) ?_; clear hF; intro a hF
        refine split_bool hF 75 rfl (fun hb75 => ?_) (fun hb75 => ?_)
        ·have hc75 := hb75; try simp only [Bool.or_eq_true, Bool.and_eq_true, Bool.or_eq_false_iff, Bool.and_eq_false_iff, Bool.not_eq_true', Bool.not_eq_false', decide_eq_true_eq, decide_eq_false_iff_not, Bool.not_true, Bool.not_false] at hc75
         refine l_offg hF ((wanted_of hF rfl rfl rfl rfl).trans (by rw [hb75]; rfl)) rfl rfl ?_; clear hF; intro a hF
         refine l_offg hF ((wanted_of hF rfl rfl rfl rfl).trans (by rw [hb75]; rfl)) rfl rfl ?_; clear hF; intro a hF
         refine l_offg hF (wanted_un hF rfl rfl rfl rfl) rfl rfl ?_; clear hF; intro a hF
         refine l_offg hF (wanted_un hF rfl rfl rfl rfl) rfl rfl ?_; clear hF; intro a hF
         refine l_offg hF (wanted_un hF rfl rfl rfl rfl) rfl rfl ?_; clear hF; intro a hF
         refine l_offg hF ((wanted_of hF rfl rfl rfl rfl).trans (by rw [hb75]; rfl)) rfl rfl ?_; clear hF; intro a hF
         refine l_offg hF ((wanted_of hF rfl rfl rfl rfl).trans (by rw [hb75]; rfl)) rfl rfl ?_; clear hF; intro a hF
         refine l_offg hF (wanted_un hF rfl rfl rfl rfl) rfl rfl ?_; clear hF; intro a hF
         refine l_offg hF (wanted_un hF rfl rfl rfl rfl) rfl rfl ?_; clear hF; intro a hF
         refine l_offg hF ((wanted_of hF rfl rfl rfl rfl).trans (by rw [hb75]; rfl)) rfl rfl ?_; clear hF; intro a hF
         refine l_at hF rfl rfl rfl (x_pickT (hF.tmp 75 rfl) hb75 rfl) ?_; clear hF; intro a hF
         refine l_at hF rfl rfl rfl (x_move (hF.tmp 86 rfl)) ?_; clear hF; intro a hF
         refine l_offg hF ((wanted_of hF rfl rfl rfl rfl).trans rfl) rfl rfl ?_; clear hF; intro a hF
         refine l_offg hF ((wanted_of hF rfl rfl rfl rfl).trans rfl) rfl rfl ?_; clear hF; intro a hF
         refine l_offg hF (wanted_un hF rfl rfl rfl rfl) rfl rfl ?_; clear hF; intro a hF
         refine l_offg hF (wanted_un hF rfl rfl rfl rfl) rfl rfl ?_; clear hF; intro a hF
         refine l_offg hF (wanted_un hF rfl rfl rfl rfl) rfl rfl ?_; clear hF; intro a hF
         refine l_offg hF ((wanted_of hF rfl rfl rfl rfl).trans rfl) rfl rfl ?_; clear hF; intro a hF
         refine l_offg hF ((wanted_of hF rfl rfl rfl rfl).trans rfl) rfl rfl ?_; clear hF; intro a hF
         refine l_offg hF (wanted_un hF rfl rfl rfl rfl) rfl rfl ?_; clear hF; intro a hF
         refine l_offg hF (wanted_un hF rfl rfl rfl rfl) rfl rfl ?_; clear hF; intro a hF
         refine l_offg hF (wanted_un hF rfl rfl rfl rfl) rfl rfl ?_; clear hF; intro a hF
         refine l_offg hF (wanted_un hF rfl rfl rfl rfl) rfl rfl ?_; clear hF; intro a hF
         refine l_offg hF (wanted_un hF rfl rfl rfl rfl) rfl rfl ?_; clear hF; intro a hF
         refine l_offg hF (wanted_un hF rfl rfl rfl rfl) rfl rfl ?_; clear hF; intro a hF
         refine l_offg hF (wanted_un hF rfl rfl rfl rfl) rfl rfl ?_; clear hF; intro a hF
         refine l_offg hF (wanted_un hF rfl rfl rfl rfl) rfl rfl ?_; clear hF; intro a hF
         refine l_offg hF (wanted_un hF rfl rfl rfl rfl) rfl rfl ?_; clear hF; intro a hF
         refine l_offg hF (wanted_un hF rfl rfl rfl rfl) rfl rfl ?_; clear hF; intro a hF
         refine l_offg hF (wanted_un hF rfl rfl rfl rfl) rfl rfl ?_; clear hF; intro a hF
         refine l_offg hF (wanted_un hF rfl rfl rfl rfl) rfl rfl ?_; clear hF; intro a hF
         refine l_offg hF (wanted_un hF rfl rfl rfl rfl) rfl rfl ?_; clear hF; intro a hF
         refine l_offg hF (wanted_un hF rfl rfl rfl rfl) rfl rfl ?_; clear hF; intro a hF
         refine l_offg hF (wanted_un hF rfl rfl rfl rfl) rfl rfl ?_; clear hF; intro a hF
         refine l_offg hF ((wanted_of hF rfl rfl rfl rfl).trans rfl) rfl rfl ?_; clear hF; intro a hF
         refine l_at hF rfl rfl rfl (x_pickT (hF.tmp 87 rfl) rfl rfl) ?_; clear hF; intro a hF
         have hbad : true = false := by
          have hrq : rightQ (reqC (gsact xs (k : Int)).req) = true := by first | assumption | (simpa using hc64)
          obtain ⟨ho1, ho2, ho3⟩ := once_e (r := (gsact xs (k : Int)).req) hq0_3 hrq
          rcases Int.lt_trichotomy (gsact xs (k : Int)).req.num last with hn | hn | hn
          ·have hE := ho2 hn; first | (exfalso; omega) | (revert hc64 hc69 hc75; simp +contextual [hE]; done)
          ·obtain ⟨hE, hF', ho⟩ := ho3 hn; first | (exfalso; omega) | (revert hc64 hc69 hc75; simp +contextual [hE, hF', ho]; done)
          ·have hop := ho1 hn; first | (exfalso; omega) | (revert hc64 hc69 hc75; simp +contextual [hop]; done)
         have hF := FrD.add hF hF 111 (v := .bool false) ((show Sx.get _ 111 = some (Value.bool true) from rfl).trans (by rw [hbad]))
         refine wpList_nil ?_
         exact hJr20 _ _  (((((((((hF.bare.add hF 111 rfl).add hF 15 rfl).add hF 13 rfl).add hF 7 rfl).add hF 6 rfl).add hF 5 rfl).add hF 4 rfl).add hF 3 rfl).add hF 0 rfl) (hH.sub _ (sub_cons (sub_cons (sub_cons (sub_cons (sub_cons (sub_cons (sub_cons (sub_cons (sub_cons (sub_cons (sub_cons (sub_cons (sub_cons (sub_cons (sub_cons (sub_cons (sub_cons (sub_cons (sub_nil _) 11 rfl) 70 rfl) 8 rfl) 1506 rfl) 1505 rfl) 1504 rfl) 1503 rfl) 1502 rfl) 1501 rfl) 1500 rfl) 1499 rfl) 1006 rfl) 1003 rfl) 906 rfl) 6 rfl) 100 rfl) 990 rfl) 901 rfl))
        ·have hc75 := hb75; try simp only [Bool.or_eq_true, Bool.and_eq_true, Bool.or_eq_false_iff, Bool.and_eq_false_iff, Bool.not_eq_true', Bool.not_eq_false', decide_eq_true_eq, decide_eq_false_iff_not, Bool.not_true, Bool.not_false] at hc75
         refine l_atg hF ((wanted_of hF rfl rfl rfl rfl).trans (by rw [hb75]; rfl)) rfl rfl (x_move (hF.tmp 10 rfl)) ?_; clear hF; intro a hF
         refine l_atg hF ((wanted_of hF rfl rfl rfl rfl).trans (by rw [hb75]; rfl)) rfl rfl (x_move (hF.tmp 76 rfl)) ?_; clear hF; intro a hF
         have hb77 : ((rightQ (reqC (gsact xs (k : Int)).req))) = true := hb64
         refine l_atg hF ((wanted_of hF rfl rfl rfl rfl).trans (by rw [hb77]; rfl)) rfl rfl (x_move (hF.tmp 15 rfl)) ?_; clear hF; intro a hF
         refine l_atg hF ((wanted_of hF rfl rfl rfl rfl).trans (by rw [hb77]; rfl)) rfl rfl (x_move (hF.tmp 4 rfl)) ?_; clear hF; intro a hF
         refine l_atg hF ((wanted_of hF rfl rfl rfl rfl).trans (by rw [hb77]; rfl)) rfl rfl (x_lss (hF.tmp 78 rfl) (hF.tmp 79 rfl)) ?_; clear hF; intro a hF
         refine l_atg hF ((wanted_of hF rfl rfl rfl rfl).trans (by rw [hb75]; rfl)) rfl rfl (x_pickT (hF.tmp 77 rfl) hb77 (hF.tmp 80 rfl)) ?_; clear hF; intro a hF
         refine l_atg hF ((wanted_of hF rfl rfl rfl rfl).trans (by rw [hb75]; rfl)) rfl rfl (x_move (hF.tmp 81 rfl)) ?_; clear hF; intro a hF
         refine split_bool hF 82 rfl (fun hb82 => ?_) (fun hb82 => ?_)
         ·have hc82 := hb82; try simp only [Bool.or_eq_true, Bool.and_eq_true, Bool.or_eq_false_iff, Bool.and_eq_false_iff, Bool.not_eq_true', Bool.not_eq_false', decide_eq_true_eq, decide_eq_false_iff_not, Bool.not_true, Bool.not_false] at hc82
          refine l_atg hF ((wanted_of hF rfl rfl rfl rfl).trans (by rw [hb82]; rfl)) rfl rfl (x_move (hF.tmp 13 rfl)) ?_; clear hF; intro a hF
          refine l_atg hF ((wanted_of hF rfl rfl rfl rfl).trans (by rw [hb82]; rfl)) rfl rfl (x_neq (hF.tmp 83 rfl) rfl) ?_; clear hF; intro a hF
          refine l_atg hF ((wanted_of hF rfl rfl rfl rfl).trans (by rw [hb75]; rfl)) rfl rfl (x_pickT (hF.tmp 82 rfl) hb82 (hF.tmp 84 rfl)) ?_; clear hF; intro a hF
          refine l_at hF rfl rfl rfl (x_pickF (hF.tmp 75 rfl) hb75 (hF.tmp 85 rfl)) ?_; clear hF; intro a hF
          refine l_at hF rfl rfl rfl (x_move (hF.tmp 86 rfl)) ?_; clear hF; intro a hF
          refine split_bool hF 87 rfl (fun hb87 => ?_) (fun hb87 => ?_)
          ·have hc87 := hb87; try simp only [Bool.or_eq_true, Bool.and_eq_true, Bool.or_eq_false_iff, Bool.and_eq_false_iff, Bool.not_eq_true', Bool.not_eq_false', decide_eq_true_eq, decide_eq_false_iff_not, Bool.not_true, Bool.not_false] at hc87
           refine l_offg hF ((wanted_of hF rfl rfl rfl rfl).trans (by rw [hb87]; rfl)) rfl rfl ?_; clear hF; intro a hF
           refine l_offg hF ((wanted_of hF rfl rfl rfl rfl).trans (by rw [hb87]; rfl)) rfl rfl ?_; clear hF; intro a hF
           refine l_offg hF (wanted_un hF rfl rfl rfl rfl) rfl rfl ?_; clear hF; intro a hF
           refine l_offg hF (wanted_un hF rfl rfl rfl rfl) rfl rfl ?_; clear hF; intro a hF
           refine l_offg hF (wanted_un hF rfl rfl rfl rfl) rfl rfl ?_; clear hF; intro a hF
           refine l_offg hF ((wanted_of hF rfl rfl rfl rfl).trans (by rw [hb87]; rfl)) rfl rfl ?_; clear hF; intro a hF
           refine l_offg hF ((wanted_of hF rfl rfl rfl rfl).trans (by rw [hb87]; rfl)) rfl rfl ?_; clear hF; intro a hF
           refine l_offg hF (wanted_un hF rfl rfl rfl rfl) rfl rfl ?_; clear hF; intro a hF
           refine l_offg hF (wanted_un hF rfl rfl rfl rfl) rfl rfl ?_; clear hF; intro a hF
           refine l_offg hF (wanted_un hF rfl rfl rfl rfl) rfl rfl ?_; clear hF; intro a hF
           refine l_offg hF (wanted_un hF rfl rfl rfl rfl) rfl rfl ?_; clear hF; intro a hF
           refine l_offg hF (wanted_un hF rfl rfl rfl rfl) rfl rfl ?_; clear hF; intro a hF
           refine l_offg hF (wanted_un hF rfl rfl rfl rfl) rfl rfl ?_; clear hF; intro a hF
           refine l_offg hF (wanted_un hF rfl rfl rfl rfl) rfl rfl ?_; clear hF; intro a hF
           refine l_offg hF (wanted_un hF rfl rfl rfl rfl) rfl rfl ?_; clear hF; intro a hF
           refine l_offg hF (wanted_un hF rfl rfl rfl rfl) rfl rfl ?_; clear hF; intro a hF
           refine l_offg hF (wanted_un hF rfl rfl rfl rfl) rfl rfl ?_; clear hF; intro a hF
           refine l_offg hF (wanted_un hF rfl rfl rfl rfl) rfl rfl ?_; clear hF; intro a hF
           refine l_offg hF (wanted_un hF rfl rfl rfl rfl) rfl rfl ?_; clear hF; intro a hF
           refine l_offg hF (wanted_un hF rfl rfl rfl rfl) rfl rfl ?_; clear hF; intro a hF
           refine l_offg hF (wanted_un hF rfl rfl rfl rfl) rfl rfl ?_; clear hF; intro a hF
           refine l_offg hF (wanted_un hF rfl rfl rfl rfl) rfl rfl ?_; clear hF; intro a hF
           refine l_offg hF ((wanted_of hF rfl rfl rfl rfl).trans (by rw [hb87]; rfl)) rfl rfl ?_; clear hF; intro a hF
           refine l_at hF rfl rfl rfl (x_pickT (hF.tmp 87 rfl) hb87 rfl) ?_; clear hF; intro a hF
           have hbad : true = false := by
            have hrq : rightQ (reqC (gsact xs (k : Int)).req) = true := by first | assumption | (simpa using hc64)
            obtain ⟨ho1, ho2, ho3⟩ := once_e (r := (gsact xs (k : Int)).req) hq0_3 hrq
            rcases Int.lt_trichotomy (gsact xs (k : Int)).req.num last with hn | hn | hn
            ·have hE := ho2 hn; first | (exfalso; omega) | (revert hc64 hc69 hc75 hc82 hc87; simp +contextual [hE]; done)
            ·obtain ⟨hE, hF', ho⟩ := ho3 hn; first | (exfalso; omega) | (revert hc64 hc69 hc75 hc82 hc87; simp +contextual [hE, hF', ho]; done)
            ·have hop := ho1 hn; first | (exfalso; omega) | (revert hc64 hc69 hc75 hc82 hc87; simp +contextual [hop]; done)
           have hF := FrD.add hF hF 111 (v := .bool false) ((show Sx.get _ 111 = some (Value.bool true) from rfl).trans (by rw [hbad]))
           refine wpList_nil ?_
           exact hJr20 _ _  (((((((((hF.bare.add hF 111 rfl).add hF 15 rfl).add hF 13 rfl).add hF 7 rfl).add hF 6 rfl).add hF 5 rfl).add hF 4 rfl).add hF 3 rfl).add hF 0 rfl) (hH.sub _ (sub_cons (sub_cons (sub_cons (sub_cons (sub_cons (sub_cons (sub_cons (sub_cons (sub_cons (sub_cons (sub_cons (sub_cons (sub_cons (sub_cons (sub_cons (sub_cons (sub_cons (sub_cons (sub_nil _) 11 rfl) 70 rfl) 8 rfl) 1506 rfl) 1505 rfl) 1504 rfl) 1503 rfl) 1502 rfl) 1501 rfl) 1500 rfl) 1499 rfl) 1006 rfl) 1003 rfl) 906 rfl) 6 rfl) 100 rfl) 990 rfl) 901 rfl))
          ·have hc87 := hb87; try simp only [Bool.or_eq_true, Bool.and_eq_true, Bool.or_eq_false_iff, Bool.and_eq_false_iff, Bool.not_eq_true', Bool.not_eq_false', decide_eq_true_eq, decide_eq_false_iff_not, Bool.not_true, Bool.not_false] at hc87
           refine l_atg hF ((wanted_of hF rfl rfl rfl rfl).trans (by rw [hb87]; rfl)) rfl rfl (x_move (hF.tmp 10 rfl)) ?_; clear hF; intro a hF
           refine l_atg hF ((wanted_of hF rfl rfl rfl rfl).trans (by rw [hb87]; rfl)) rfl rfl (x_move (hF.tmp 88 rfl)) ?_; clear hF; intro a hF
           have hb89 : ((rightQ (reqC (gsact xs (k : Int)).req))) = true := hb64
           refine l_atg hF ((wanted_of hF rfl rfl rfl rfl).trans (by rw [hb89]; rfl)) rfl rfl (x_move (hF.tmp 15 rfl)) ?_; clear hF; intro a hF
           refine l_atg hF ((wanted_of hF rfl rfl rfl rfl).trans (by rw [hb89]; rfl)) rfl rfl (x_move (hF.tmp 4 rfl)) ?_; clear hF; intro a hF
           refine l_atg hF ((wanted_of hF rfl rfl rfl rfl).trans (by rw [hb89]; rfl)) rfl rfl (x_eql (hF.tmp 90 rfl) (hF.tmp 91 rfl)) ?_; clear hF; intro a hF
           refine l_atg hF ((wanted_of hF rfl rfl rfl rfl).trans (by rw [hb87]; rfl)) rfl rfl (x_pickT (hF.tmp 89 rfl) hb89 (hF.tmp 92 rfl)) ?_; clear hF; intro a hF
           refine l_atg hF ((wanted_of hF rfl rfl rfl rfl).trans (by rw [hb87]; rfl)) rfl rfl (x_move (hF.tmp 93 rfl)) ?_; clear hF; intro a hF
           refine split_bool hF 94 rfl (fun hb94 => ?_) (fun hb94 => ?_)
           ·have hc94 := hb94; try simp only [Bool.or_eq_true, Bool.and_eq_true, Bool.or_eq_false_iff, Bool.and_eq_false_iff, Bool.not_eq_true', Bool.not_eq_false', decide_eq_true_eq, decide_eq_false_iff_not, Bool.not_true, Bool.not_false] at hc94
            refine l_atg hF ((wanted_of hF rfl rfl rfl rfl).trans (by rw [hb94]; rfl)) rfl rfl (x_move (hF.tmp 13 rfl)) ?_; clear hF; intro a hF
            refine l_atg hF ((wanted_of hF rfl rfl rfl rfl).trans (by rw [hb94]; rfl)) rfl rfl (x_neq (hF.tmp 95 rfl) rfl) ?_; clear hF; intro a hF
            refine l_atg hF ((wanted_of hF rfl rfl rfl rfl).trans (by rw [hb94]; rfl)) rfl rfl (x_move (hF.tmp 96 rfl)) ?_; clear hF; intro a hF
            refine split_bool hF 97 rfl (fun hb97 => ?_) (fun hb97 => ?_)
            ·have hc97 := hb97; try simp only [Bool.or_eq_true, Bool.and_eq_true, Bool.or_eq_false_iff, Bool.and_eq_false_iff, Bool.not_eq_true', Bool.not_eq_false', decide_eq_true_eq, decide_eq_false_iff_not, Bool.not_true, Bool.not_false] at hc97
             refine l_offg hF ((wanted_of hF rfl rfl rfl rfl).trans (by rw [hb97]; rfl)) rfl rfl ?_; clear hF; intro a hF
             refine l_offg hF ((wanted_of hF rfl rfl rfl rfl).trans (by rw [hb97]; rfl)) rfl rfl ?_; clear hF; intro a hF
             refine l_offg hF ((wanted_of hF rfl rfl rfl rfl).trans (by rw [hb97]; rfl)) rfl rfl ?_; clear hF; intro a hF
             refine l_atg hF ((wanted_of hF rfl rfl rfl rfl).trans (by rw [hb94]; rfl)) rfl rfl (x_pickT (hF.tmp 97 rfl) hb97 rfl) ?_; clear hF; intro a hF
             refine l_atg hF ((wanted_of hF rfl rfl rfl rfl).trans (by rw [hb94]; rfl)) rfl rfl (x_move (hF.tmp 101 rfl)) ?_; clear hF; intro a hF
             refine l_offg hF ((wanted_of hF rfl rfl rfl rfl).trans rfl) rfl rfl ?_; clear hF; intro a hF
             refine l_offg hF ((wanted_of hF rfl rfl rfl rfl).trans rfl) rfl rfl ?_; clear hF; intro a hF
             refine l_offg hF ((wanted_of hF rfl rfl rfl rfl).trans rfl) rfl rfl ?_; clear hF; intro a hF
             refine l_offg hF (wanted_un hF rfl rfl rfl rfl) rfl rfl ?_; clear hF; intro a hF
             refine l_offg hF (wanted_un hF rfl rfl rfl rfl) rfl rfl ?_; clear hF; intro a hF
             refine l_offg hF ((wanted_of hF rfl rfl rfl rfl).trans rfl) rfl rfl ?_; clear hF; intro a hF
             refine l_atg hF ((wanted_of hF rfl rfl rfl rfl).trans (by rw [hb94]; rfl)) rfl rfl (x_pickT (hF.tmp 102 rfl) rfl rfl) ?_; clear hF; intro a hF
             refine l_atg hF ((wanted_of hF rfl rfl rfl rfl).trans (by rw [hb87]; rfl)) rfl rfl (x_pickT (hF.tmp 94 rfl) hb94 (hF.tmp 109 rfl)) ?_; clear hF; intro a hF
             refine l_at hF rfl rfl rfl (x_pickF (hF.tmp 87 rfl) hb87 (hF.tmp 110 rfl)) ?_; clear hF; intro a hF
             have hbad : true = false := by
              have hrq : rightQ (reqC (gsact xs (k : Int)).req) = true := by first | assumption | (simpa using hc64)
              obtain ⟨ho1, ho2, ho3⟩ := once_e (r := (gsact xs (k : Int)).req) hq0_3 hrq
              rcases Int.lt_trichotomy (gsact xs (k : Int)).req.num last with hn | hn | hn
              ·have hE := ho2 hn; first | (exfalso; omega) | (revert hc64 hc69 hc75 hc82 hc87 hc94 hc97; simp +contextual [hE]; done)
              ·obtain ⟨hE, hF', ho⟩ := ho3 hn; first | (exfalso; omega) | (revert hc64 hc69 hc75 hc82 hc87 hc94 hc97; simp +contextual [hE, hF', ho]; done)
              ·have hop := ho1 hn; first | (exfalso; omega) | (revert hc64 hc69 hc75 hc82 hc87 hc94 hc97; simp +contextual [hop]; done)
             have hF := FrD.add hF hF 111 (v := .bool false) ((show Sx.get _ 111 = some (Value.bool true) from rfl).trans (by rw [hbad]))
             refine wpList_nil ?_
             exact hJr20 _ _  (((((((((hF.bare.add hF 111 rfl).add hF 15 rfl).add hF 13 rfl).add hF 7 rfl).add hF 6 rfl).add hF 5 rfl).add hF 4 rfl).add hF 3 rfl).add hF 0 rfl) (hH.sub _ (sub_cons (sub_cons (sub_cons (sub_cons (sub_cons (sub_cons (sub_cons (sub_cons (sub_cons (sub_cons (sub_cons (sub_cons (sub_cons (sub_cons (sub_cons (sub_cons (sub_cons (sub_cons (sub_nil _) 11 rfl) 70 rfl) 8 rfl) 1506 rfl) 1505 rfl) 1504 rfl) 1503 rfl) 1502 rfl) 1501 rfl) 1500 rfl) 1499 rfl) 1006 rfl) 1003 rfl) 906 rfl) 6 rfl) 100 rfl) 990 rfl) 901 rfl))
            ·have hc97 := hb97; try simp only [Bool.or_eq_true, Bool.and_eq_true, Bool.or_eq_false_iff, Bool.and_eq_false_iff, Bool.not_eq_true', Bool.not_eq_false', decide_eq_true_eq, decide_eq_false_iff_not, Bool.not_true, Bool.not_false] at hc97
             refine l_atg hF ((wanted_of hF rfl rfl rfl rfl).trans (by rw [hb97]; rfl)) rfl rfl (x_move (hF.tmp 12 rfl)) ?_; clear hF; intro a hF
             refine l_atg hF ((wanted_of hF rfl rfl rfl rfl).trans (by rw [hb97]; rfl)) rfl rfl (x_move (hF.tmp 5 rfl)) ?_; clear hF; intro a hF
             refine l_atg hF ((wanted_of hF rfl rfl rfl rfl).trans (by rw [hb97]; rfl)) rfl rfl (x_eqb (hF.tmp 98 rfl) (hF.tmp 99 rfl) Tryd.underlying4) ?_; clear hF; intro a hF
             refine l_atg hF ((wanted_of hF rfl rfl rfl rfl).trans (by rw [hb94]; rfl)) rfl rfl (x_pickF (hF.tmp 97 rfl) hb97 (hF.tmp 100 rfl)) ?_; clear hF; intro a hF
             refine l_atg hF ((wanted_of hF rfl rfl rfl rfl).trans (by rw [hb94]; rfl)) rfl rfl (x_move (hF.tmp 101 rfl)) ?_; clear hF; intro a hF
             refine split_bool hF 102 rfl (fun hb102 => ?_) (fun hb102 => ?_)
             ·have hc102 := hb102; try simp only [Bool.or_eq_true, Bool.and_eq_true, Bool.or_eq_false_iff, Bool.and_eq_false_iff, Bool.not_eq_true', Bool.not_eq_false', decide_eq_true_eq, decide_eq_false_iff_not, Bool.not_true, Bool.not_false] at hc102
              refine l_offg hF ((wanted_of hF rfl rfl rfl rfl).trans (by rw [hb102]; rfl)) rfl rfl ?_; clear hF; intro a hF
              refine l_offg hF ((wanted_of hF rfl rfl rfl rfl).trans (by rw [hb102]; rfl)) rfl rfl ?_; clear hF; intro a hF
              refine l_offg hF ((wanted_of hF rfl rfl rfl rfl).trans (by rw [hb102]; rfl)) rfl rfl ?_; clear hF; intro a hF
              refine l_offg hF (wanted_un hF rfl rfl rfl rfl) rfl rfl ?_; clear hF; intro a hF
              refine l_offg hF (wanted_un hF rfl rfl rfl rfl) rfl rfl ?_; clear hF; intro a hF
              refine l_offg hF ((wanted_of hF rfl rfl rfl rfl).trans (by rw [hb102]; rfl)) rfl rfl ?_; clear hF; intro a hF
              refine l_atg hF ((wanted_of hF rfl rfl rfl rfl).trans (by rw [hb94]; rfl)) rfl rfl (x_pickT (hF.tmp 102 rfl) hb102 rfl) ?_; clear hF; intro a hF
              refine l_atg hF ((wanted_of hF rfl rfl rfl rfl).trans (by rw [hb87]; rfl)) rfl rfl (x_pickT (hF.tmp 94 rfl) hb94 (hF.tmp 109 rfl)) ?_; clear hF; intro a hF
              refine l_at hF rfl rfl rfl (x_pickF (hF.tmp 87 rfl) hb87 (hF.tmp 110 rfl)) ?_; clear hF; intro a hF
              have hbad : true = false := by
               have hrq : rightQ (reqC (gsact xs (k : Int)).req) = true := by first | assumption | (simpa using hc64)
               obtain ⟨ho1, ho2, ho3⟩ := once_e (r := (gsact xs (k : Int)).req) hq0_3 hrq
               rcases Int.lt_trichotomy (gsact xs (k : Int)).req.num last with hn | hn | hn
               ·have hE := ho2 hn; first | (exfalso; omega) | (revert hc64 hc69 hc75 hc82 hc87 hc94 hc97 hc102; simp +contextual [hE]; done)
               ·obtain ⟨hE, hF', ho⟩ := ho3 hn; first | (exfalso; omega) | (revert hc64 hc69 hc75 hc82 hc87 hc94 hc97 hc102; simp +contextual [hE, hF', ho]; done)
               ·have hop := ho1 hn; first | (exfalso; omega) | (revert hc64 hc69 hc75 hc82 hc87 hc94 hc97 hc102; simp +contextual [hop]; done)
              have hF := FrD.add hF hF 111 (v := .bool false) ((show Sx.get _ 111 = some (Value.bool true) from rfl).trans (by rw [hbad]))
              refine wpList_nil ?_
              exact hJr20 _ _  (((((((((hF.bare.add hF 111 rfl).add hF 15 rfl).add hF 13 rfl).add hF 7 rfl).add hF 6 rfl).add hF 5 rfl).add hF 4 rfl).add hF 3 rfl).add hF 0 rfl) (hH.sub _ (sub_cons (sub_cons (sub_cons (sub_cons (sub_cons (sub_cons (sub_cons (sub_cons (sub_cons (sub_cons (sub_cons (sub_cons (sub_cons (sub_cons (sub_cons (sub_cons (sub_cons (sub_cons (sub_nil _) 11 rfl) 70 rfl) 8 rfl) 1506 rfl) 1505 rfl) 1504 rfl) 1503 rfl) 1502 rfl) 1501 rfl) 1500 rfl) 1499 rfl) 1006 rfl) 1003 rfl) 906 rfl) 6 rfl) 100 rfl) 990 rfl) 901 rfl))
             ·have hc102 := hb102; try simp only [Bool.or_eq_true, Bool.and_eq_true, Bool.or_eq_false_iff, Bool.and_eq_false_iff, Bool.not_eq_true', Bool.not_eq_false', decide_eq_true_eq, decide_eq_false_iff_not, Bool.not_true, Bool.not_false] at hc102
              refine l_atg hF ((wanted_of hF rfl rfl rfl rfl).trans (by rw [hb102]; rfl)) rfl rfl (x_move (hF.tmp 5 rfl)) ?_; clear hF; intro a hF
              refine l_atg hF ((wanted_of hF rfl rfl rfl rfl).trans (by rw [hb102]; rfl)) rfl rfl (x_not (hF.tmp 103 rfl)) ?_; clear hF; intro a hF
              refine l_atg hF ((wanted_of hF rfl rfl rfl rfl).trans (by rw [hb102]; rfl)) rfl rfl (x_move (hF.tmp 104 rfl)) ?_; clear hF; intro a hF
              refine split_bool hF 105 rfl (fun hb105 => ?_) (fun hb105 => ?_)
              ·have hc105 := hb105; try simp only [Bool.or_eq_true, Bool.and_eq_true, Bool.or_eq_false_iff, Bool.and_eq_false_iff, Bool.not_eq_true', Bool.not_eq_false', decide_eq_true_eq, decide_eq_false_iff_not, Bool.not_true, Bool.not_false] at hc105
               refine l_atg hF ((wanted_of hF rfl rfl rfl rfl).trans (by rw [hb105]; rfl)) rfl rfl (x_move (hF.tmp 14 rfl)) ?_; clear hF; intro a hF
               refine l_atg hF ((wanted_of hF rfl rfl rfl rfl).trans (by rw [hb105]; rfl)) rfl rfl (x_not (hF.tmp 106 rfl)) ?_; clear hF; intro a hF
               refine l_atg hF ((wanted_of hF rfl rfl rfl rfl).trans (by rw [hb102]; rfl)) rfl rfl (x_pickT (hF.tmp 105 rfl) hb105 (hF.tmp 107 rfl)) ?_; clear hF; intro a hF
               refine l_atg hF ((wanted_of hF rfl rfl rfl rfl).trans (by rw [hb94]; rfl)) rfl rfl (x_pickF (hF.tmp 102 rfl) hb102 (hF.tmp 108 rfl)) ?_; clear hF; intro a hF
               refine l_atg hF ((wanted_of hF rfl rfl rfl rfl).trans (by rw [hb87]; rfl)) rfl rfl (x_pickT (hF.tmp 94 rfl) hb94 (hF.tmp 109 rfl)) ?_; clear hF; intro a hF
               refine l_at hF rfl rfl rfl (x_pickF (hF.tmp 87 rfl) hb87 (hF.tmp 110 rfl)) ?_; clear hF; intro a hF
               have hbad : (!(decide (askA m (reqC (gsact xs (k : Int)).req) = t))) = false := by
                have hrq : rightQ (reqC (gsact xs (k : Int)).req) = true := by first | assumption | (simpa using hc64)
                obtain ⟨ho1, ho2, ho3⟩ := once_e (r := (gsact xs (k : Int)).req) hq0_3 hrq
                rcases Int.lt_trichotomy (gsact xs (k : Int)).req.num last with hn | hn | hn
                ·have hE := ho2 hn; first | (exfalso; omega) | (revert hc64 hc69 hc75 hc82 hc87 hc94 hc97 hc102 hc105; simp +contextual [hE]; done)
                ·obtain ⟨hE, hF', ho⟩ := ho3 hn; first | (exfalso; omega) | (revert hc64 hc69 hc75 hc82 hc87 hc94 hc97 hc102 hc105; simp +contextual [hE, hF', ho]; done)
                ·have hop := ho1 hn; first | (exfalso; omega) | (revert hc64 hc69 hc75 hc82 hc87 hc94 hc97 hc102 hc105; simp +contextual [hop]; done)
               have hF := FrD.add hF hF 111 (v := .bool false) ((show Sx.get _ 111 = some (Value.bool (!(decide (askA m (reqC (gsact xs (k : Int)).req) = t)))) from rfl).trans (by rw [hbad]))
               refine wpList_nil ?_
               exact hJr20 _ _  (((((((((hF.bare.add hF 111 rfl).add hF 15 rfl).add hF 13 rfl).add hF 7 rfl).add hF 6 rfl).add hF 5 rfl).add hF 4 rfl).add hF 3 rfl).add hF 0 rfl) (hH.sub _ (sub_cons (sub_cons (sub_cons (sub_cons (sub_cons (sub_cons (sub_cons (sub_cons (sub_cons (sub_cons (sub_cons (sub_cons (sub_cons (sub_cons (sub_cons (sub_cons (sub_cons (sub_cons (sub_nil _) 11 rfl) 70 rfl) 8 rfl) 1506 rfl) 1505 rfl) 1504 rfl) 1503 rfl) 1502 rfl) 1501 rfl) 1500 rfl) 1499 rfl) 1006 rfl) 1003 rfl) 906 rfl) 6 rfl) 100 rfl) 990 rfl) 901 rfl))
              ·have hc105 := hb105; try simp only [Bool.or_eq_true, Bool.and_eq_true, Bool.or_eq_false_iff, Bool.and_eq_false_iff, Bool.not_eq_true', Bool.not_eq_false', decide_eq_true_eq, decide_eq_false_iff_not, Bool.not_true, Bool.not_false] at hc105
               refine l_offg hF ((wanted_of hF rfl rfl rfl rfl).trans (by rw [hb105]; rfl)) rfl rfl ?_; clear hF; intro a hF
               refine l_offg hF ((wanted_of hF rfl rfl rfl rfl).trans (by rw [hb105]; rfl)) rfl rfl ?_; clear hF; intro a hF
               refine l_atg hF ((wanted_of hF rfl rfl rfl rfl).trans (by rw [hb102]; rfl)) rfl rfl (x_pickF (hF.tmp 105 rfl) hb105 rfl) ?_; clear hF; intro a hF
               refine l_atg hF ((wanted_of hF rfl rfl rfl rfl).trans (by rw [hb94]; rfl)) rfl rfl (x_pickF (hF.tmp 102 rfl) hb102 (hF.tmp 108 rfl)) ?_; clear hF; intro a hF
               refine l_atg hF ((wanted_of hF rfl rfl rfl rfl).trans (by rw [hb87]; rfl)) rfl rfl (x_pickT (hF.tmp 94 rfl) hb94 (hF.tmp 109 rfl)) ?_; clear hF; intro a hF
               refine l_at hF rfl rfl rfl (x_pickF (hF.tmp 87 rfl) hb87 (hF.tmp 110 rfl)) ?_; clear hF; intro a hF
               refine wpList_nil ?_
               exact hJr20 _ _  (((((((((hF.bare.add hF 111 rfl).add hF 15 rfl).add hF 13 rfl).add hF 7 rfl).add hF 6 rfl).add hF 5 rfl).add hF 4 rfl).add hF 3 rfl).add hF 0 rfl) (hH.sub _ (sub_cons (sub_cons (sub_cons (sub_cons (sub_cons (sub_cons (sub_cons (sub_cons (sub_cons (sub_cons (sub_cons (sub_cons (sub_cons (sub_cons (sub_cons (sub_cons (sub_cons (sub_cons (sub_nil _) 11 rfl) 70 rfl) 8 rfl) 1506 rfl) 1505 rfl) 1504 rfl) 1503 rfl) 1502 rfl) 1501 rfl) 1500 rfl) 1499 rfl) 1006 rfl) 1003 rfl) 906 rfl) 6 rfl) 100 rfl) 990 rfl) 901 rfl))
           ·have hc94 := hb94; try simp only [Bool.or_eq_true, Bool.and_eq_true, Bool.or_eq_false_iff, Bool.and_eq_false_iff, Bool.not_eq_true', Bool.not_eq_false', decide_eq_true_eq, decide_eq_false_iff_not, Bool.not_true, Bool.not_false] at hc94
            refine l_offg hF ((wanted_of hF rfl rfl rfl rfl).trans (by rw [hb94]; rfl)) rfl rfl ?_; clear hF; intro a hF
            refine l_offg hF ((wanted_of hF rfl rfl rfl rfl).trans (by rw [hb94]; rfl)) rfl rfl ?_; clear hF; intro a hF
            refine l_offg hF ((wanted_of hF rfl rfl rfl rfl).trans (by rw [hb94]; rfl)) rfl rfl ?_; clear hF; intro a hF
            refine l_offg hF (wanted_un hF rfl rfl rfl rfl) rfl rfl ?_; clear hF; intro a hF
            refine l_offg hF (wanted_un hF rfl rfl rfl rfl) rfl rfl ?_; clear hF; intro a hF
            refine l_offg hF (wanted_un hF rfl rfl rfl rfl) rfl rfl ?_; clear hF; intro a hF
            refine l_offg hF ((wanted_of hF rfl rfl rfl rfl).trans (by rw [hb94]; rfl)) rfl rfl ?_; clear hF; intro a hF
            refine l_offg hF ((wanted_of hF rfl rfl rfl rfl).trans (by rw [hb94]; rfl)) rfl rfl ?_; clear hF; intro a hF
            refine l_offg hF (wanted_un hF rfl rfl rfl rfl) rfl rfl ?_; clear hF; intro a hF
            refine l_offg hF (wanted_un hF rfl rfl rfl rfl) rfl rfl ?_; clear hF; intro a hF
            refine l_offg hF (wanted_un hF rfl rfl rfl rfl) rfl rfl ?_; clear hF; intro a hF
            refine l_offg hF (wanted_un hF rfl rfl rfl rfl) rfl rfl ?_; clear hF; intro a hF
            refine l_offg hF (wanted_un hF rfl rfl rfl rfl) rfl rfl ?_; clear hF; intro a hF
            refine l_offg hF (wanted_un hF rfl rfl rfl rfl) rfl rfl ?_; clear hF; intro a hF
            refine l_offg hF ((wanted_of hF rfl rfl rfl rfl).trans (by rw [hb94]; rfl)) rfl rfl ?_; clear hF; intro a hF
            refine l_atg hF ((wanted_of hF rfl rfl rfl rfl).trans (by rw [hb87]; rfl)) rfl rfl (x_pickF (hF.tmp 94 rfl) hb94 rfl) ?_; clear hF; intro a hF
            refine l_at hF rfl rfl rfl (x_pickF (hF.tmp 87 rfl) hb87 (hF.tmp 110 rfl)) ?_; clear hF; intro a hF
            refine wpList_nil ?_
            exact hJr20 _ _  (((((((((hF.bare.add hF 111 rfl).add hF 15 rfl).add hF 13 rfl).add hF 7 rfl).add hF 6 rfl).add hF 5 rfl).add hF 4 rfl).add hF 3 rfl).add hF 0 rfl) (hH.sub _ (sub_cons (sub_cons (sub_cons (sub_cons (sub_cons (sub_cons (sub_cons (sub_cons (sub_cons (sub_cons (sub_cons (sub_cons (sub_cons (sub_cons (sub_cons (sub_cons (sub_cons (sub_cons (sub_nil _) 11 rfl) 70 rfl) 8 rfl) 1506 rfl) 1505 rfl) 1504 rfl) 1503 rfl) 1502 rfl) 1501 rfl) 1500 rfl) 1499 rfl) 1006 rfl) 1003 rfl) 906 rfl) 6 rfl) 100 rfl) 990 rfl) 901 rfl))
         ·have hc82 := hb82; try simp only [Bool.or_eq_true, Bool.and_eq_true, Bool.or_eq_false_iff, Bool.and_eq_false_iff, Bool.not_eq_true', Bool.not_eq_false', decide_eq_true_eq, decide_eq_false_iff_not, Bool.not_true, Bool.not_false] at hc82
          refine l_offg hF ((wanted_of hF rfl rfl rfl rfl).trans (by rw [hb82]; rfl)) rfl rfl ?_; clear hF; intro a hF
          refine l_offg hF ((wanted_of hF rfl rfl rfl rfl).trans (by rw [hb82]; rfl)) rfl rfl ?_; clear hF; intro a hF
          refine l_atg hF ((wanted_of hF rfl rfl rfl rfl).trans (by rw [hb75]; rfl)) rfl rfl (x_pickF (hF.tmp 82 rfl) hb82 rfl) ?_; clear hF; intro a hF
          refine l_at hF rfl rfl rfl (x_pickF (hF.tmp 75 rfl) hb75 (hF.tmp 85 rfl)) ?_; clear hF; intro a hF
          refine l_at hF rfl rfl rfl (x_move (hF.tmp 86 rfl)) ?_; clear hF; intro a hF
          refine l_atg hF ((wanted_of hF rfl rfl rfl rfl).trans rfl) rfl rfl (x_move (hF.tmp 10 rfl)) ?_; clear hF; intro a hF
          refine l_atg hF ((wanted_of hF rfl rfl rfl rfl).trans rfl) rfl rfl (x_move (hF.tmp 88 rfl)) ?_; clear hF; intro a hF
          have hb89 : ((rightQ (reqC (gsact xs (k : Int)).req))) = true := hb64
          refine l_atg hF ((wanted_of hF rfl rfl rfl rfl).trans (by rw [hb89]; rfl)) rfl rfl (x_move (hF.tmp 15 rfl)) ?_; clear hF; intro a hF
          refine l_atg hF ((wanted_of hF rfl rfl rfl rfl).trans (by rw [hb89]; rfl)) rfl rfl (x_move (hF.tmp 4 rfl)) ?_; clear hF; intro a hF
          refine l_atg hF ((wanted_of hF rfl rfl rfl rfl).trans (by rw [hb89]; rfl)) rfl rfl (x_eql (hF.tmp 90 rfl) (hF.tmp 91 rfl)) ?_; clear hF; intro a hF
          refine l_atg hF ((wanted_of hF rfl rfl rfl rfl).trans rfl) rfl rfl (x_pickT (hF.tmp 89 rfl) hb89 (hF.tmp 92 rfl)) ?_; clear hF; intro a hF
          refine l_atg hF ((wanted_of hF rfl rfl rfl rfl).trans rfl) rfl rfl (x_move (hF.tmp 93 rfl)) ?_; clear hF; intro a hF
          refine split_bool hF 94 rfl (fun hb94 => ?_) (fun hb94 => ?_)
          ·have hc94 := hb94; try simp only [Bool.or_eq_true, Bool.and_eq_true, Bool.or_eq_false_iff, Bool.and_eq_false_iff, Bool.not_eq_true', Bool.not_eq_false', decide_eq_true_eq, decide_eq_false_iff_not, Bool.not_true, Bool.not_false] at hc94
           refine l_atg hF ((wanted_of hF rfl rfl rfl rfl).trans (by rw [hb94]; rfl)) rfl rfl (x_move (hF.tmp 13 rfl)) ?_; clear hF; intro a hF
           refine l_atg hF ((wanted_of hF rfl rfl rfl rfl).trans (by rw [hb94]; rfl)) rfl rfl (x_neq (hF.tmp 95 rfl) rfl) ?_; clear hF; intro a hF
           refine l_atg hF ((wanted_of hF rfl rfl rfl rfl).trans (by rw [hb94]; rfl)) rfl rfl (x_move (hF.tmp 96 rfl)) ?_; clear hF; intro a hF
           refine split_bool hF 97 rfl (fun hb97 => ?_) (fun hb97 => ?_)
           ·have hc97 := hb97; try simp only [Bool.or_eq_true, Bool.and_eq_true, Bool.or_eq_false_iff, Bool.and_eq_false_iff, Bool.not_eq_true', Bool.not_eq_false', decide_eq_true_eq, decide_eq_false_iff_not, Bool.not_true, Bool.not_false] at hc97
            refine l_offg hF ((wanted_of hF rfl rfl rfl rfl).trans (by rw [hb97]; rfl)) rfl rfl ?_; clear hF; intro a hF
            refine l_offg hF ((wanted_of hF rfl rfl rfl rfl).trans (by rw [hb97]; rfl)) rfl rfl ?_; clear hF; intro a hF
            refine l_offg hF ((wanted_of hF rfl rfl rfl rfl).trans (by rw [hb97]; rfl)) rfl rfl ?_; clear hF; intro a hF
            refine l_atg hF ((wanted_of hF rfl rfl rfl rfl).trans (by rw [hb94]; rfl)) rfl rfl (x_pickT (hF.tmp 97 rfl) hb97 rfl) ?_; clear hF; intro a hF
            refine l_atg hF ((wanted_of hF rfl rfl rfl rfl).trans (by rw [hb94]; rfl)) rfl rfl (x_move (hF.tmp 101 rfl)) ?_; clear hF; intro a hF
            refine l_offg hF ((wanted_of hF rfl rfl rfl rfl).trans rfl) rfl rfl ?_; clear hF; intro a hF
            refine l_offg hF ((wanted_of hF rfl rfl rfl rfl).trans rfl) rfl rfl ?_; clear hF; intro a hF
            refine l_offg hF ((wanted_of hF rfl rfl rfl rfl).trans rfl) rfl rfl ?_; clear hF; intro a hF
            refine l_offg hF (wanted_un hF rfl rfl rfl rfl) rfl rfl ?_; clear hF; intro a hF
            refine l_offg hF (wanted_un hF rfl rfl rfl rfl) rfl rfl ?_; clear hF; intro a hF
            refine l_offg hF ((wanted_of hF rfl rfl rfl rfl).trans rfl) rfl rfl ?_; clear hF; intro a hF
            refine l_atg hF ((wanted_of hF rfl rfl rfl rfl).trans (by rw [hb94]; rfl)) rfl rfl (x_pickT (hF.tmp 102 rfl) rfl rfl) ?_; clear hF; intro a hF
            refine l_atg hF ((wanted_of hF rfl rfl rfl rfl).trans rfl) rfl rfl (x_pickT (hF.tmp 94 rfl) hb94 (hF.tmp 109 rfl)) ?_; clear hF; intro a hF
            refine l_at hF rfl rfl rfl (x_pickF (hF.tmp 87 rfl) rfl (hF.tmp 110 rfl)) ?_; clear hF; intro a hF
            have hbad : true = false := by
             have hrq : rightQ (reqC (gsact xs (k : Int)).req) = true := by first | assumption | (simpa using hc64)
             obtain ⟨ho1, ho2, ho3⟩ := once_e (r := (gsact xs (k : Int)).req) hq0_3 hrq
             rcases Int.lt_trichotomy (gsact xs (k : Int)).req.num last with hn | hn | hn
             ·have hE := ho2 hn; first | (exfalso; omega) | (revert hc64 hc69 hc75 hc82 hc94 hc97; simp +contextual [hE]; done)
             ·obtain ⟨hE, hF', ho⟩ := ho3 hn; first | (exfalso; omega) | (revert hc64 hc69 hc75 hc82 hc94 hc97; simp +contextual [hE, hF', ho]; done)
             ·have hop := ho1 hn; first | (exfalso; omega) | (revert hc64 hc69 hc75 hc82 hc94 hc97; simp +contextual [hop]; done)
            have hF := FrD.add hF hF 111 (v := .bool false) ((show Sx.get _ 111 = some (Value.bool true) from rfl).trans (by rw [hbad]))
            refine wpList_nil ?_
            exact hJr20 _ _  (((((((((hF.bare.add hF 111 rfl).add hF 15 rfl).add hF 13 rfl).add hF 7 rfl).add hF 6 rfl).add hF 5 rfl).add hF 4 rfl).add hF 3 rfl).add hF 0 rfl) (hH.sub _ (sub_cons (sub_cons (sub_cons (sub_cons (sub_cons (sub_cons (sub_cons (sub_cons (sub_cons (sub_cons (sub_cons (sub_cons (sub_cons (sub_cons (sub_cons (sub_cons (sub_cons (sub_cons (sub_nil _) 11 rfl) 70 rfl) 8 rfl) 1506 rfl) 1505 rfl) 1504 rfl) 1503 rfl) 1502 rfl) 1501 rfl) 1500 rfl) 1499 rfl) 1006 rfl) 1003 rfl) 906 rfl) 6 rfl) 100 rfl) 990 rfl) 901 rfl))
           ·have hc97 := hb97; try simp only [Bool.or_eq_true, Bool.and_eq_true, Bool.or_eq_false_iff, Bool.and_eq_false_iff, Bool.not_eq_true', Bool.not_eq_false', decide_eq_true_eq, decide_eq_false_iff_not, Bool.not_true, Bool.not_false] at hc97
            refine l_atg hF ((wanted_of hF rfl rfl rfl rfl).trans (by rw [hb97]; rfl)) rfl rfl (x_move (hF.tmp 12 rfl)) ?_; clear hF; intro a hF
            refine l_atg hF ((wanted_of hF rfl rfl rfl rfl).trans (by rw [hb97]; rfl)) rfl rfl (x_move (hF.tmp 5 rfl)) ?_; clear hF; intro a hF
            refine l_atg hF ((wanted_of hF rfl rfl rfl rfl).trans (by rw [hb97]; rfl)) rfl rfl (x_eqb (hF.tmp 98 rfl) (hF.tmp 99 rfl) Tryd.underlying4) ?_; clear hF; intro a hF
            refine l_atg hF ((wanted_of hF rfl rfl rfl rfl).trans (by rw [hb94]; rfl)) rfl rfl (x_pickF (hF.tmp 97 rfl) hb97 (hF.tmp 100 rfl)) ?_; clear hF; intro a hF
            refine l_atg hF ((wanted_of hF rfl rfl rfl rfl).trans (by rw [hb94]; rfl)) rfl rfl (x_move (hF.tmp 101 rfl)) ?_; clear hF; intro a hF
            refine split_bool hF 102 rfl (fun hb102 => ?_) (fun hb102 => ?_)
            ·have hc102 := hb102; try simp only [Bool.or_eq_true, Bool.and_eq_true, Bool.or_eq_false_iff, Bool.and_eq_false_iff, Bool.not_eq_true', Bool.not_eq_false', decide_eq_true_eq, decide_eq_false_iff_not, Bool.not_true, Bool.not_false] at hc102
             refine l_offg hF ((wanted_of hF rfl rfl rfl rfl).trans (by rw [hb102]; rfl)) rfl rfl ?_; clear hF; intro a hF
             refine l_offg hF ((wanted_of hF rfl rfl rfl rfl).trans (by rw [hb102]; rfl)) rfl rfl ?_; clear hF; intro a hF
             refine l_offg hF ((wanted_of hF rfl rfl rfl rfl).trans (by rw [hb102]; rfl)) rfl rfl ?_; clear hF; intro a hF
             refine l_offg hF (wanted_un hF rfl rfl rfl rfl) rfl rfl ?_; clear hF; intro a hF
             refine l_offg hF (wanted_un hF rfl rfl rfl rfl) rfl rfl ?_; clear hF; intro a hF
             refine l_offg hF ((wanted_of hF rfl rfl rfl rfl).trans (by rw [hb102]; rfl)) rfl rfl ?_; clear hF; intro a hF
             refine l_atg hF ((wanted_of hF rfl rfl rfl rfl).trans (by rw [hb94]; rfl)) rfl rfl (x_pickT (hF.tmp 102 rfl) hb102 rfl) ?_; clear hF; intro a hF
             refine l_atg hF ((wanted_of hF rfl rfl rfl rfl).trans rfl) rfl rfl (x_pickT (hF.tmp 94 rfl) hb94 (hF.tmp 109 rfl)) ?_; clear hF; intro a hF
             refine l_at hF rfl rfl rfl (x_pickF (hF.tmp 87 rfl) rfl (hF.tmp 110 rfl)) ?_; clear hF; intro a hF
             have hbad : true = false := by
              have hrq : rightQ (reqC (gsact xs (k : Int)).req) = true := by first | assumption | (simpa using hc64)
              obtain ⟨ho1, ho2, ho3⟩ := once_e (r := (gsact xs (k : Int)).req) hq0_3 hrq
              rcases Int.lt_trichotomy (gsact xs (k : Int)).req.num last with hn | hn | hn
              ·have hE := ho2 hn; first | (exfalso; omega) | (revert hc64 hc69 hc75 hc82 hc94 hc97 hc102; simp +contextual [hE]; done)
              ·obtain ⟨hE, hF', ho⟩ := ho3 hn; first | (exfalso; omega) | (revert hc64 hc69 hc75 hc82 hc94 hc97 hc102; simp +contextual [hE, hF', ho]; done)
              ·have hop := ho1 hn; first | (exfalso; omega) | (revert hc64 hc69 hc75 hc82 hc94 hc97 hc102; simp +contextual [hop]; done)
             have hF := FrD.add hF hF 111 (v := .bool false) ((show Sx.get _ 111 = some (Value.bool true) from rfl).trans (by rw [hbad]))
             refine wpList_nil ?_
             exact hJr20 _ _  (((((((((hF.bare.add hF 111 rfl).add hF 15 rfl).add hF 13 rfl).add hF 7 rfl).add hF 6 rfl).add hF 5 rfl).add hF 4 rfl).add hF 3 rfl).add hF 0 rfl) (hH.sub _ (sub_cons (sub_cons (sub_cons (sub_cons (sub_cons (sub_cons (sub_cons (sub_cons (sub_cons (sub_cons (sub_cons (sub_cons (sub_cons (sub_cons (sub_cons (sub_cons (sub_cons (sub_cons (sub_nil _) 11 rfl) 70 rfl) 8 rfl) 1506 rfl) 1505 rfl) 1504 rfl) 1503 rfl) 1502 rfl) 1501 rfl) 1500 rfl) 1499 rfl) 1006 rfl) 1003 rfl) 906 rfl) 6 rfl) 100 rfl) 990 rfl) 901 rfl))
            ·have hc102 := hb102; try simp only [Bool.or_eq_true, Bool.and_eq_true, Bool.or_eq_false_iff, Bool.and_eq_false_iff, Bool.not_eq_true', Bool.not_eq_false', decide_eq_true_eq, decide_eq_false_iff_not, Bool.not_true, Bool.not_false] at hc102
             refine l_atg hF ((wanted_of hF rfl rfl rfl rfl).trans (by rw [hb102]; rfl)) rfl rfl (x_move (hF.tmp 5 rfl)) ?_; clear hF; intro a hF
             refine l_atg hF ((wanted_of hF rfl rfl rfl rfl).trans (by rw [hb102]; rfl)) rfl rfl (x_not (hF.tmp 103 rfl)) ?_; clear hF; intro a hF
             refine l_atg hF ((wanted_of hF rfl rfl rfl rfl).trans (by rw [hb102]; rfl)) rfl rfl (x_move (hF.tmp 104 rfl)) ?_; clear hF; intro a hF
             refine split_bool hF 105 rfl (fun hb105 => ?_) (fun hb105 => ?_)
             ·have hc105 := hb105; try simp only [Bool.or_eq_true, Bool.and_eq_true, Bool.or_eq_false_iff, Bool.and_eq_false_iff, Bool.not_eq_true', Bool.not_eq_false', decide_eq_true_eq, decide_eq_false_iff_not, Bool.not_true, Bool.not_false] at hc105
              refine l_atg hF ((wanted_of hF rfl rfl rfl rfl).trans (by rw [hb105]; rfl)) rfl rfl (x_move (hF.tmp 14 rfl)) ?_; clear hF; intro a hF
              refine l_atg hF ((wanted_of hF rfl rfl rfl rfl).trans (by rw [hb105]; rfl)) rfl rfl (x_not (hF.tmp 106 rfl)) ?_; clear hF; intro a hF
              refine l_atg hF ((wanted_of hF rfl rfl rfl rfl).trans (by rw [hb102]; rfl)) rfl rfl (x_pickT (hF.tmp 105 rfl) hb105 (hF.tmp 107 rfl)) ?_; clear hF; intro a hF
              refine l_atg hF ((wanted_of hF rfl rfl rfl rfl).trans (by rw [hb94]; rfl)) rfl rfl (x_pickF (hF.tmp 102 rfl) hb102 (hF.tmp 108 rfl)) ?_; clear hF; intro a hF
              refine l_atg hF ((wanted_of hF rfl rfl rfl rfl).trans rfl) rfl rfl (x_pickT (hF.tmp 94 rfl) hb94 (hF.tmp 109 rfl)) ?_; clear hF; intro a hF
              refine l_at hF rfl rfl rfl (x_pickF (hF.tmp 87 rfl) rfl (hF.tmp 110 rfl)) ?_; clear hF; intro a hF
              have hbad : (!(decide (askA m (reqC (gsact xs (k : Int)).req) = t))) = false := by
               have hrq : rightQ (reqC (gsact xs (k : Int)).req) = true := by first | assumption | (simpa using hc64)
               obtain ⟨ho1, ho2, ho3⟩ := once_e (r := (gsact xs (k : Int)).req) hq0_3 hrq
               rcases Int.lt_trichotomy (gsact xs (k : Int)).req.num last with hn | hn | hn
               ·have hE := ho2 hn; first | (exfalso; omega) | (revert hc64 hc69 hc75 hc82 hc94 hc97 hc102 hc105; simp +contextual [hE]; done)
               ·obtain ⟨hE, hF', ho⟩ := ho3 hn; first | (exfalso; omega) | (revert hc64 hc69 hc75 hc82 hc94 hc97 hc102 hc105; simp +contextual [hE, hF', ho]; done)
               ·have hop := ho1 hn; first | (exfalso; omega) | (revert hc64 hc69 hc75 hc82 hc94 hc97 hc102 hc105; simp +contextual [hop]; done)
              have hF := FrD.add hF hF 111 (v := .bool false) ((show Sx.get _ 111 = some (Value.bool (!(decide (askA m (reqC (gsact xs (k : Int)).req) = t)))) from rfl).trans (by rw [hbad]))
              refine wpList_nil ?_
              exact hJr20 _ _  (((((((((hF.bare.add hF 111 rfl).add hF 15 rfl).add hF 13 rfl).add hF 7 rfl).add hF 6 rfl).add hF 5 rfl).add hF 4 rfl).add hF 3 rfl).add hF 0 rfl) (hH.sub _ (sub_cons (sub_cons (sub_cons (sub_cons (sub_cons (sub_cons (sub_cons (sub_cons (sub_cons (sub_cons (sub_cons (sub_cons (sub_cons (sub_cons (sub_cons (sub_cons (sub_cons (sub_cons (sub_nil _) 11 rfl) 70 rfl) 8 rfl) 1506 rfl) 1505 rfl) 1504 rfl) 1503 rfl) 1502 rfl) 1501 rfl) 1500 rfl) 1499 rfl) 1006 rfl) 1003 rfl) 906 rfl) 6 rfl) 100 rfl) 990 rfl) 901 rfl))
             ·have hc105 := hb105; try simp only [Bool.or_eq_true, Bool.and_eq_true, Bool.or_eq_false_iff, Bool.and_eq_false_iff, Bool.not_eq_true', Bool.not_eq_false', decide_eq_true_eq, decide_eq_false_iff_not, Bool.not_true, Bool.not_false] at hc105
              refine l_offg hF ((wanted_of hF rfl rfl rfl rfl).trans (by rw [hb105]; rfl)) rfl rfl ?_; clear hF; intro a hF
              refine l_offg hF ((wanted_of hF rfl rfl rfl rfl).trans (by rw [hb105]; rfl)) rfl rfl ?_; clear hF; intro a hF
              refine l_atg hF ((wanted_of hF rfl rfl rfl rfl).trans (by rw [hb102]; rfl)) rfl rfl (x_pickF (hF.tmp 105 rfl) hb105 rfl) ?_; clear hF; intro a hF
              refine l_atg hF ((wanted_of hF rfl rfl rfl rfl).trans (by rw [hb94]; rfl)) rfl rfl (x_pickF (hF.tmp 102 rfl) hb102 (hF.tmp 108 rfl)) ?_; clear hF; intro a hF
              refine l_atg hF ((wanted_of hF rfl rfl rfl rfl).trans rfl) rfl rfl (x_pickT (hF.tmp 94 rfl) hb94 (hF.tmp 109 rfl)) ?_; clear hF; intro a hF
              refine l_at hF rfl rfl rfl (x_pickF (hF.tmp 87 rfl) rfl (hF.tmp 110 rfl)) ?_; clear hF; intro a hF
              refine wpList_nil ?_
              exact hJr20 _ _  (((((((((hF.bare.add hF 111 rfl).add hF 15 rfl).add hF 13 rfl).add hF 7 rfl).add hF 6 rfl).add hF 5 rfl).add hF 4 rfl).add hF 3 rfl).add hF 0 rfl) (hH.sub _ (sub_cons (sub_cons (sub_cons (sub_cons (sub_cons (sub_cons (sub_cons (sub_cons (sub_cons (sub_cons (sub_cons (sub_cons (sub_cons (sub_cons (sub_cons (sub_cons (sub_cons (sub_cons (sub_nil _) 11 rfl) 70 rfl) 8 rfl) 1506 rfl) 1505 rfl) 1504 rfl) 1503 rfl) 1502 rfl) 1501 rfl) 1500 rfl) 1499 rfl) 1006 rfl) 1003 rfl) 906 rfl) 6 rfl) 100 rfl) 990 rfl) 901 rfl))
          ·have hc94 := hb94; try simp only [Bool.or_eq_true, Bool.and_eq_true, Bool.or_eq_false_iff, Bool.and_eq_false_iff, Bool.not_eq_true', Bool.not_eq_false', decide_eq_true_eq, decide_eq_false_iff_not, Bool.not_true, Bool.not_false] at hc94
           refine l_offg hF ((wanted_of hF rfl rfl rfl rfl).trans (by rw [hb94]; rfl)) rfl rfl ?_; clear hF; intro a hF
           refine l_offg hF ((wanted_of hF rfl rfl rfl rfl).trans (by rw [hb94]; rfl)) rfl rfl ?_; clear hF; intro a hF
           refine l_offg hF ((wanted_of hF rfl rfl rfl rfl).trans (by rw [hb94]; rfl)) rfl rfl ?_; clear hF; intro a hF
           refine l_offg hF (wanted_un hF rfl rfl rfl rfl) rfl rfl ?_; clear hF; intro a hF
           refine l_offg hF (wanted_un hF rfl rfl rfl rfl) rfl rfl ?_; clear hF; intro a hF
           refine l_offg hF (wanted_un hF rfl rfl rfl rfl) rfl rfl ?_; clear hF; intro a hF
           refine l_offg hF ((wanted_of hF rfl rfl rfl rfl).trans (by rw [hb94]; rfl)) rfl rfl ?_; clear hF; intro a hF
           refine l_offg hF ((wanted_of hF rfl rfl rfl rfl).trans (by rw [hb94]; rfl)) rfl rfl ?_; clear hF; intro a hF
           refine l_offg hF (wanted_un hF rfl rfl rfl rfl) rfl rfl ?_; clear hF; intro a hF
           refine l_offg hF (wanted_un hF rfl rfl rfl rfl) rfl rfl ?_; clear hF; intro a hF
           refine l_offg hF (wanted_un hF rfl rfl rfl rfl) rfl rfl ?_; clear hF; intro a hF
           refine l_offg hF (wanted_un hF rfl rfl rfl rfl) rfl rfl ?_; clear hF; intro a hF
           refine l_offg hF (wanted_un hF rfl rfl rfl rfl) rfl rfl ?_; clear hF; intro a hF
           refine l_offg hF (wanted_un hF rfl rfl rfl rfl) rfl rfl ?_; clear hF; intro a hF
           refine l_offg hF ((wanted_of hF rfl rfl rfl rfl).trans (by rw [hb94]; rfl)) rfl rfl ?_; clear hF; intro a hF
           refine l_atg hF ((wanted_of hF rfl rfl rfl rfl).trans rfl) rfl rfl (x_pickF (hF.tmp 94 rfl) hb94 rfl) ?_; clear hF; intro a hF
           refine l_at hF rfl rfl rfl (x_pickF (hF.tmp 87 rfl) rfl (hF.tmp 110 rfl)) ?_; clear hF; intro a hF
           refine wpList_nil ?_
           exact hJr20 _ _  (((((((((hF.bare.add hF 111 rfl).add hF 15 rfl).add hF 13 rfl).add hF 7 rfl).add hF 6 rfl).add hF 5 rfl).add hF 4 rfl).add hF 3 rfl).add hF 0 rfl) (hH.sub _ (sub_cons (sub_cons (sub_cons (sub_cons (sub_cons (sub_cons (sub_cons (sub_cons (sub_cons (sub_cons (sub_cons (sub_cons (sub_cons (sub_cons (sub_cons (sub_cons (sub_cons (sub_cons (sub_nil _) 11 rfl) 70 rfl) 8 rfl) 1506 rfl) 1505 rfl) 1504 rfl) 1503 rfl) 1502 rfl) 1501 rfl) 1500 rfl) 1499 rfl) 1006 rfl) 1003 rfl) 906 rfl) 6 rfl) 100 rfl) 990 rfl) 901 rfl))
       ·have hc69 := hb69; try simp only [Bool.or_eq_true, Bool.and_eq_true, Bool.or_eq_false_iff, Bool.and_eq_false_iff, Bool.not_eq_true', Bool.not_eq_false', decide_eq_true_eq, decide_eq_false_iff_not, Bool.not_true, Bool.not_false] at hc69
        refine l_offg hF ((wanted_of hF rfl rfl rfl rfl).trans (by rw [hb69]; rfl)) rfl rfl ?_; clear hF; intro a hF
        refine l_offg hF ((wanted_of hF rfl rfl rfl rfl).trans (by rw [hb69]; rfl)) rfl rfl ?_; clear hF; intro a hF
        refine l_offg hF ((wanted_of hF rfl rfl rfl rfl).trans (by rw [hb69]; rfl)) rfl rfl ?_; clear hF; intro a hF
        refine l_offg hF ((wanted_of hF rfl rfl rfl rfl).trans (by rw [hb69]; rfl)) rfl rfl ?_; clear hF; intro a hF
        refine l_at hF rfl rfl rfl (x_pickF (hF.tmp 69 rfl) hb69 rfl) ?_; clear hF; intro a hF
        refine l_at hF rfl rfl rfl (x_move (hF.tmp 74 rfl)) ?_; clear hF; intro a hF
        refine l_atg hF ((wanted_of hF rfl rfl rfl rfl).trans rfl) rfl rfl (x_move (hF.tmp 10 rfl)) ?_; clear hF; intro a hF
        refine l_atg hF ((wanted_of hF rfl rfl rfl rfl).trans rfl) rfl rfl (x_move (hF.tmp 76 rfl)) ?_; clear hF; intro a hF
        have hb77 : ((rightQ (reqC (gsact xs (k : Int)).req))) = true := hb64
        refine l_atg hF ((wanted_of hF rfl rfl rfl rfl).trans (by rw [hb77]; rfl)) rfl rfl (x_move (hF.tmp 15 rfl)) ?_; clear hF; intro a hF
        refine l_atg hF ((wanted_of hF rfl rfl rfl rfl).trans (by rw [hb77]; rfl)) rfl rfl (x_move (hF.tmp 4 rfl)) ?_; clear hF; intro a hF
        refine l_atg hF ((wanted_of hF rfl rfl rfl rfl).trans (by rw [hb77]; rfl)) rfl rfl (x_lss (hF.tmp 78 rfl) (hF.tmp 79 rfl)) ?_; clear hF; intro a hF
        refine l_atg hF ((wanted_of hF rfl rfl rfl rfl).trans rfl) rfl rfl (x_pickT (hF.tmp 77 rfl) hb77 (hF.tmp 80 rfl)) ?_; clear hF; intro a hF
        refine l_atg hF ((wanted_of hF rfl rfl rfl rfl).trans rfl) rfl rfl (x_move (hF.tmp 81 rfl)) ?_; clear hF; intro a hF
        refine split_bool hF 82 rfl (fun hb82 => ?_) (fun hb82 => ?_)
        ·have hc82 := hb82; try simp only [Bool.or_eq_true, Bool.and_eq_true, Bool.or_eq_false_iff, Bool.and_eq_false_iff, Bool.not_eq_true', Bool.not_eq_false', decide_eq_true_eq, decide_eq_false_iff_not, Bool.not_true, Bool.not_false] at hc82
         refine l_atg hF ((wanted_of hF rfl rfl rfl rfl).trans (by rw [hb82]; rfl)) rfl rfl (x_move (hF.tmp 13 rfl)) ?_; clear hF; intro a hF
         refine l_atg hF ((wanted_of hF rfl rfl rfl rfl).trans (by rw [hb82]; rfl)) rfl rfl (x_neq (hF.tmp 83 rfl) rfl) ?_; clear hF; intro a hF
         refine l_atg hF ((wanted_of hF rfl rfl rfl rfl).trans rfl) rfl rfl (x_pickT (hF.tmp 82 rfl) hb82 (hF.tmp 84 rfl)) ?_; clear hF; intro a hF
         refine l_at hF rfl rfl rfl (x_pickF (hF.tmp 75 rfl) rfl (hF.tmp 85 rfl)) ?_; clear hF; intro a hF
         refine l_at hF rfl rfl rfl (x_move (hF.tmp 86 rfl)) ?_; clear hF; intro a hF
         refine split_bool hF 87 rfl (fun hb87 => ?_) (fun hb87 => ?_)
         ·have hc87 := hb87; try simp only [Bool.or_eq_true, Bool.and_eq_true, Bool.or_eq_false_iff, Bool.and_eq_false_iff, Bool.not_eq_true', Bool.not_eq_false', decide_eq_true_eq, decide_eq_false_iff_not, Bool.not_true, Bool.not_false] at hc87
          refine l_offg hF ((wanted_of hF rfl rfl rfl rfl).trans (by rw [hb87]; rfl)) rfl rfl ?_; clear hF; intro a hF
          refine l_offg hF ((wanted_of hF rfl rfl rfl rfl).trans (by rw [hb87]; rfl)) rfl rfl ?_; clear hF; intro a hF
          refine l_offg hF (wanted_un hF rfl rfl rfl rfl) rfl rfl ?_; clear hF; intro a hF
          refine l_offg hF (wanted_un hF rfl rfl rfl rfl) rfl rfl ?_; clear hF; intro a hF
          refine l_offg hF (wanted_un hF rfl rfl rfl rfl) rfl rfl ?_; clear hF; intro a hF
          refine l_offg hF ((wanted_of hF rfl rfl rfl rfl).trans (by rw [hb87]; rfl)) rfl rfl ?_; clear hF; intro a hF
          refine l_offg hF ((wanted_of hF rfl rfl rfl rfl).trans (by rw [hb87]; rfl)) rfl rfl ?_; clear hF; intro a hF
          refine l_offg hF (wanted_un hF rfl rfl rfl rfl) rfl rfl ?_; clear hF; intro a hF
          refine l_offg hF (wanted_un hF rfl rfl rfl rfl) rfl rfl ?_; clear hF; intro a hF
          refine l_offg hF (wanted_un hF rfl rfl rfl rfl) rfl rfl ?_; clear hF; intro a hF
          refine l_offg hF (wanted_un hF rfl rfl rfl rfl) rfl rfl ?_; clear hF; intro a hF
          refine l_offg hF (wanted_un hF rfl rfl rfl rfl) rfl rfl ?_; clear hF; intro a hF
          refine l_offg hF (wanted_un hF rfl rfl rfl rfl) rfl rfl ?_; clear hF; intro a hF
          refine l_offg hF (wanted_un hF rfl rfl rfl rfl) rfl rfl ?_; clear hF; intro a hF
          refine l_offg hF (wanted_un hF rfl rfl rfl rfl) rfl rfl ?_; clear hF; intro a hF
          refine l_offg hF (wanted_un hF rfl rfl rfl rfl) rfl rfl ?_; clear hF; intro a hF
          refine l_offg hF (wanted_un hF rfl rfl rfl rfl) rfl rfl ?_; clear hF; intro a hF
          refine l_offg hF (wanted_un hF rfl rfl rfl rfl) rfl rfl ?_; clear hF; intro a hF
          refine l_offg hF (wanted_un hF rfl rfl rfl rfl) rfl rfl ?_; clear hF; intro a hF
          refine l_offg hF (wanted_un hF rfl rfl rfl rfl) rfl rfl ?_; clear hF; intro a hF
          refine l_offg hF (wanted_un hF rfl rfl rfl rfl) rfl rfl ?_; clear hF; intro a hF
          refine l_offg hF (wanted_un hF rfl rfl rfl rfl) rfl rfl ?_; clear hF; intro a hF
          refine l_offg hF ((wanted_of hF rfl rfl rfl rfl).trans (by rw [hb87]; rfl)) rfl rfl ?_; clear hF; intro a hF
          refine l_at hF rfl rfl rfl (x_pickT (hF.tmp 87 rfl) hb87 rfl) ?_; clear hF; intro a hF
          have hbad : true = false := by
           have hrq : rightQ (reqC (gsact xs (k : Int)).req) = true := by first | assumption | (simpa using hc64)
           obtain ⟨ho1, ho2, ho3⟩ := once_e (r := (gsact xs (k : Int)).req) hq0_3 hrq
           rcases Int.lt_trichotomy (gsact xs (k : Int)).req.num last with hn | hn | hn
           ·have hE := ho2 hn; first | (exfalso; omega) | (revert hc64 hc69 hc82 hc87; simp +contextual [hE]; done)
           ·obtain ⟨hE, hF', ho⟩ := ho3 hn; first | (exfalso; omega) | (revert hc64 hc69 hc82 hc87; simp +contextual [hE, hF', ho]; done)
           ·have hop := ho1 hn; first | (exfalso; omega) | (revert hc64 hc69 hc82 hc87; simp +contextual [hop]; done)
          have hF := FrD.add hF hF 111 (v := .bool false) ((show Sx.get _ 111 = some (Value.bool true) from rfl).trans (by rw [hbad]))
          refine wpList_nil ?_
          exact hJr20 _ _  (((((((((hF.bare.add hF 111 rfl).add hF 15 rfl).add hF 13 rfl).add hF 7 rfl).add hF 6 rfl).add hF 5 rfl).add hF 4 rfl).add hF 3 rfl).add hF 0 rfl) (hH.sub _ (sub_cons (sub_cons (sub_cons (sub_cons (sub_cons (sub_cons (sub_cons (sub_cons (sub_cons (sub_cons (sub_cons (sub_cons (sub_cons (sub_cons (sub_cons (sub_cons (sub_cons (sub_cons (sub_nil _) 11 rfl) 70 rfl) 8 rfl) 1506 rfl) 1505 rfl) 1504 rfl) 1503 rfl) 1502 rfl) 1501 rfl) 1500 rfl) 1499 rfl) 1006 rfl) 1003 rfl) 906 rfl) 6 rfl) 100 rfl) 990 rfl) 901 rfl))
         ·have hc87 := hb87; try simp only [Bool.or_eq_true, Bool.and_eq_true, Bool.or_eq_false_iff, Bool.and_eq_false_iff, Bool.not_eq_true', Bool.not_eq_false', decide_eq_true_eq, decide_eq_false_iff_not, Bool.not_true, Bool.not_false] at hc87
          refine l_atg hF ((wanted_of hF rfl rfl rfl rfl).trans (by rw [hb87]; rfl)) rfl rfl (x_move (hF.tmp 10 rfl)) ?_; clear hF; intro a hF
          refine l_atg hF ((wanted_of hF rfl rfl rfl rfl).trans (by rw [hb87]; rfl)) rfl rfl (x_move (hF.tmp 88 rfl)) ?_; clear hF; intro a hF
          have hb89 : ((rightQ (reqC (gsact xs (k : Int)).req))) = true := hb64
          refine l_atg hF ((wanted_of hF rfl rfl rfl rfl).trans (by rw [hb89]; rfl)) rfl rfl (x_move (hF.tmp 15 rfl)) ?_; clear hF; intro a hF
          refine l_atg hF ((wanted_of hF rfl rfl rfl rfl).trans (by rw [hb89]; rfl)) rfl rfl (x_move (hF.tmp 4 rfl)) ?_; clear hF; intro a hF
          refine l_atg hF ((wanted_of hF rfl rfl rfl rfl).trans (by rw [hb89]; rfl)) rfl rfl (x_eql (hF.tmp 90 rfl) (hF.tmp 91 rfl)) ?_; clear hF; intro a hF
          refine l_atg hF ((wanted_of hF rfl rfl rfl rfl).trans (by rw [hb87]; rfl)) rfl rfl (x_pickT (hF.tmp 89 rfl) hb89 (hF.tmp 92 rfl)) ?_; clear hF; intro a hF
          refine l_atg hF ((wanted_of hF rfl rfl rfl rfl).trans (by rw [hb87]; rfl)) rfl rfl (x_move (hF.tmp 93 rfl)) ?_; clear hF; intro a hF
          refine split_bool hF 94 rfl (fun hb94 => ?_) (fun hb94 => ?_)
          ·have hc94 := hb94; try simp only [Bool.or_eq_true, Bool.and_eq_true, Bool.or_eq_false_iff, Bool.and_eq_false_iff, Bool.not_eq_true', Bool.not_eq_false', decide_eq_true_eq, decide_eq_false_iff_not, Bool.not_true, Bool.not_false] at hc94
           refine l_atg hF ((wanted_of hF rfl rfl rfl rfl).trans (by rw [hb94]; rfl)) rfl rfl (x_move (hF.tmp 13 rfl)) ?_; clear hF; intro a hF
           refine l_atg hF ((wanted_of hF rfl rfl rfl rfl).trans (by rw [hb94]; rfl)) rfl rfl (x_neq (hF.tmp 95 rfl) rfl) ?_; clear hF; intro a hF
           refine l_atg hF ((wanted_of hF rfl rfl rfl rfl).trans (by rw [hb94]; rfl)) rfl rfl (x_move (hF.tmp 96 rfl)) ?_; clear hF; intro a hF
           refine split_bool hF 97 rfl (fun hb97 => ?_) (fun hb97 => ?_)
           ·have hc97 := hb97; try simp only [Bool.or_eq_true, Bool.and_eq_true, Bool.or_eq_false_iff, Bool.and_eq_false_iff, Bool.not_eq_true', Bool.not_eq_false', decide_eq_true_eq, decide_eq_false_iff_not, Bool.not_true, Bool.not_false] at hc97
            refine l_offg hF ((wanted_of hF rfl rfl rfl rfl).trans (by rw [hb97]; rfl)) rfl rfl ?_; clear hF; intro a hF
            refine l_offg hF ((wanted_of hF rfl rfl rfl rfl).trans (by rw [hb97]; rfl)) rfl rfl ?_; clear hF; intro a hF
            refine l_offg hF ((wanted_of hF rfl rfl rfl rfl).trans (by rw [hb97]; rfl)) rfl rfl ?_; clear hF; intro a hF
            refine l_atg hF ((wanted_of hF rfl rfl rfl rfl).trans (by rw [hb94]; rfl)) rfl rfl (x_pickT (hF.tmp 97 rfl) hb97 rfl) ?_; clear hF; intro a hF
            refine l_atg hF ((wanted_of hF rfl rfl rfl rfl).trans (by rw [hb94]; rfl)) rfl rfl (x_move (hF.tmp 101 rfl)) ?_; clear hF; intro a hF
            refine l_offg hF ((wanted_of hF rfl rfl rfl rfl).trans rfl) rfl rfl ?_; clear hF; intro a hF
            refine l_offg hF ((wanted_of hF rfl rfl rfl rfl).trans rfl) rfl rfl ?_; clear hF; intro a hF
            refine l_offg hF ((wanted_of hF rfl rfl rfl rfl).trans rfl) rfl rfl ?_; clear hF; intro a hF
            refine l_offg hF (wanted_un hF rfl rfl rfl rfl) rfl rfl ?_; clear hF; intro a hF
            refine l_offg hF (wanted_un hF rfl rfl rfl rfl) rfl rfl ?_; clear hF; intro a hF
            refine l_offg hF ((wanted_of hF rfl rfl rfl rfl).trans rfl) rfl rfl ?_; clear hF; intro a hF
            refine l_atg hF ((wanted_of hF rfl rfl rfl rfl).trans (by rw [hb94]; rfl)) rfl rfl (x_pickT (hF.tmp 102 rfl) rfl rfl) ?_; clear hF; intro a hF
            refine l_atg hF ((wanted_of hF rfl rfl rfl rfl).trans (by rw [hb87]; rfl)) rfl rfl (x_pickT (hF.tmp 94 rfl) hb94 (hF.tmp 109 rfl)) ?_; clear hF; intro a hF
            refine l_at hF rfl rfl rfl (x_pickF (hF.tmp 87 rfl) hb87 (hF.tmp 110 rfl)) ?_; clear hF; intro a hF
            have hbad : true = false := by
             have hrq : rightQ (reqC (gsact xs (k : Int)).req) = true := by first | assumption | (simpa using hc64)
             obtain ⟨ho1, ho2, ho3⟩ := once_e (r := (gsact xs (k : Int)).req) hq0_3 hrq
             rcases Int.lt_trichotomy (gsact xs (k : Int)).req.num last with hn | hn | hn
             ·have hE := ho2 hn; first | (exfalso; omega) | (revert hc64 hc69 hc82 hc87 hc94 hc97; simp +contextual [hE]; done)
             ·obtain ⟨hE, hF', ho⟩ := ho3 hn; first | (exfalso; omega) | (revert hc64 hc69 hc82 hc87 hc94 hc97; simp +contextual [hE, hF', ho]; done)
             ·have hop := ho1 hn; first | (exfalso; omega) | (revert hc64 hc69 hc82 hc87 hc94 hc97; simp +contextual [hop]; done)
            have hF := FrD.add hF hF 111 (v := .bool false) ((show Sx.get _ 111 = some (Value.bool true) from rfl).trans (by rw [hbad]))
            refine wpList_nil ?_
            exact hJr20 _ _  (((((((((hF.bare.add hF 111 rfl).add hF 15 rfl).add hF 13 rfl).add hF 7 rfl).add hF 6 rfl).add hF 5 rfl).add hF 4 rfl).add hF 3 rfl).add hF 0 rfl) (hH.sub _ (sub_cons (sub_cons (sub_cons (sub_cons (sub_cons (sub_cons (sub_cons (sub_cons (sub_cons (sub_cons (sub_cons (sub_cons (sub_cons (sub_cons (sub_cons (sub_cons (sub_cons (sub_cons (sub_nil _) 11 rfl) 70 rfl) 8 rfl) 1506 rfl) 1505 rfl) 1504 rfl) 1503 rfl) 1502 rfl) 1501 rfl) 1500 rfl) 1499 rfl) 1006 rfl) 1003 rfl) 906 rfl) 6 rfl) 100 rfl) 990 rfl) 901 rfl))
           ·have hc97 := hb97; try simp only [Bool.or_eq_true, Bool.and_eq_true, Bool.or_eq_false_iff, Bool.and_eq_false_iff, Bool.not_eq_true', Bool.not_eq_false', decide_eq_true_eq, decide_eq_false_iff_not, Bool.not_true, Bool.not_false] at hc97
            refine l_atg hF ((wanted_of hF rfl rfl rfl rfl).trans (by rw [hb97]; rfl)) rfl rfl (x_move (hF.tmp 12 rfl)) ?_; clear hF; intro a hF
            refine l_atg hF ((wanted_of hF rfl rfl rfl rfl).trans (by rw [hb97]; rfl)) rfl rfl (x_move (hF.tmp 5 rfl)) ?_; clear hF; intro a hF
            refine l_atg hF ((wanted_of hF rfl rfl rfl rfl).trans (by rw [hb97]; rfl)) rfl rfl (x_eqb (hF.tmp 98 rfl) (hF.tmp 99 rfl) Tryd.underlying4) ?_; clear hF; intro a hF
            refine l_atg hF ((wanted_of hF rfl rfl rfl rfl).trans (by rw [hb94]; rfl)) rfl rfl (x_pickF (hF.tmp 97 rfl) hb97 (hF.tmp 100 rfl)) ?_; clear hF; intro a hF
            refine l_atg hF ((wanted_of hF rfl rfl rfl rfl).trans (by rw [hb94]; rfl)) rfl rfl (x_move (hF.tmp 101 rfl)) ?_; clear hF; intro a hF
            refine split_bool hF 102 rfl (fun hb102 => ?_) (fun hb102 => ?_)
            ·have hc102 := hb102; try simp only [Bool.or_eq_true, Bool.and_eq_true, Bool.or_eq_false_iff, Bool.and_eq_false_iff, Bool.not_eq_true', Bool.not_eq_false', decide_eq_true_eq, decide_eq_false_iff_not, Bool.not_true, Bool.not_false] at hc102
             refine l_offg hF ((wanted_of hF rfl rfl rfl rfl).trans (by rw [hb102]; rfl)) rfl rfl ?_; clear hF; intro a hF
             refine l_offg hF ((wanted_of hF rfl rfl rfl rfl).trans (by rw [hb102]; rfl)) rfl rfl ?_; clear hF; intro a hF
             refine l_offg hF ((wanted_of hF rfl rfl rfl rfl).trans (by rw [hb102]; rfl)) rfl rfl ?_; clear hF; intro a hF
             refine l_offg hF (wanted_un hF rfl rfl rfl rfl) rfl rfl ?_; clear hF; intro a hF
             refine l_offg hF (wanted_un hF rfl rfl rfl rfl) rfl rfl ?_; clear hF; intro a hF
             refine l_offg hF ((wanted_of hF rfl rfl rfl rfl).trans (by rw [hb102]; rfl)) rfl rfl ?_; clear hF; intro a hF
             refine l_atg hF ((wanted_of hF rfl rfl rfl rfl).trans (by rw [hb94]; rfl)) rfl rfl (x_pickT (hF.tmp 102 rfl) hb102 rfl) ?_; clear hF; intro a hF
             refine l_atg hF ((wanted_of hF rfl rfl rfl rfl).trans (by rw [hb87]; rfl)) rfl rfl (x_pickT (hF.tmp 94 rfl) hb94 (hF.tmp 109 rfl)) ?_; clear hF; intro a hF
             refine l_at hF rfl rfl rfl (x_pickF (hF.tmp 87 rfl) hb87 (hF.tmp 110 rfl)) ?_; clear hF; intro a hF
             have hbad : true = false := by
              have hrq : rightQ (reqC (gsact xs (k : Int)).req) = true := by first | assumption | (simpa using hc64)
              obtain ⟨ho1, ho2, ho3⟩ := once_e (r := (gsact xs (k : Int)).req) hq0_3 hrq
              rcases Int.lt_trichotomy (gsact xs (k : Int)).req.num last with hn | hn | hn
              ·have hE := ho2 hn; first | (exfalso; omega) | (revert hc64 hc69 hc82 hc87 hc94 hc97 hc102; simp +contextual [hE]; done)
              ·obtain ⟨hE, hF', ho⟩ := ho3 hn; first | (exfalso; omega) | (revert hc64 hc69 hc82 hc87 hc94 hc97 hc102; simp +contextual [hE, hF', ho]; done)
              ·have hop := ho1 hn; first | (exfalso; omega) | (revert hc64 hc69 hc82 hc87 hc94 hc97 hc102; simp +contextual [hop]; done)
             have hF := FrD.add hF hF 111 (v := .bool false) ((show Sx.get _ 111 = some (Value.bool true) from rfl).trans (by rw [hbad]))
             refine wpList_nil ?_
             exact hJr20 _ _  (((((((((hF.bare.add hF 111 rfl).add hF 15 rfl).add hF 13 rfl).add hF 7 rfl).add hF 6 rfl).add hF 5 rfl).add hF 4 rfl).add hF 3 rfl).add hF 0 rfl) (hH.sub _ (sub_cons (sub_cons (sub_cons (sub_cons (sub_cons (sub_cons (sub_cons (sub_cons (sub_cons (sub_cons (sub_cons (sub_cons (sub_cons (sub_cons (sub_cons (sub_cons (sub_cons (sub_cons (sub_nil _) 11 rfl) 70 rfl) 8 rfl) 1506 rfl) 1505 rfl) 1504 rfl) 1503 rfl) 1502 rfl) 1501 rfl) 1500 rfl) 1499 rfl) 1006 rfl) 1003 rfl) 906 rfl) 6 rfl) 100 rfl) 990 rfl) 901 rfl))
            ·have hc102 := hb102; try simp only [Bool.or_eq_true, Bool.and_eq_true, Bool.or_eq_false_iff, Bool.and_eq_false_iff, Bool.not_eq_true', Bool.not_eq_false', decide_eq_true_eq, decide_eq_false_iff_not, Bool.not_true, Bool.not_false] at hc102
             refine l_atg hF ((wanted_of hF rfl rfl rfl rfl).trans (by rw [hb102]; rfl)) rfl rfl (x_move (hF.tmp 5 rfl)) ?_; clear hF; intro a hF
             refine l_atg hF ((wanted_of hF rfl rfl rfl rfl).trans (by rw [hb102]; rfl)) rfl rfl (x_not (hF.tmp 103 rfl)) ?_; clear hF; intro a hF
             refine l_atg hF ((wanted_of hF rfl rfl rfl rfl).trans (by rw [hb102]; rfl)) rfl rfl (x_move (hF.tmp 104 rfl)) ?_; clear hF; intro a hF
             refine split_bool hF 105 rfl (fun hb105 => ?_) (fun hb105 => ?_)
             ·have hc105 := hb105; try simp only [Bool.or_eq_true, Bool.and_eq_true, Bool.or_eq_false_iff, Bool.and_eq_false_iff, Bool.not_eq_true', Bool.not_eq_false', decide_eq_true_eq, decide_eq_false_iff_not, Bool.not_true, Bool.not_false] at hc105
              refine l_atg hF ((wanted_of hF rfl rfl rfl rfl).trans (by rw [hb105]; rfl)) rfl rfl (x_move (hF.tmp 14 rfl)) ?_; clear hF; intro a hF
              refine l_atg hF ((wanted_of hF rfl rfl rfl rfl).trans (by rw [hb105]; rfl)) rfl rfl (x_not (hF.tmp 106 rfl)) ?_; clear hF; intro a hF
              refine l_atg hF ((wanted_of hF rfl rfl rfl rfl).trans (by rw [hb102]; rfl)) rfl rfl (x_pickT (hF.tmp 105 rfl) hb105 (hF.tmp 107 rfl)) ?_; clear hF; intro a hF
              refine l_atg hF ((wanted_of hF rfl rfl rfl rfl).trans (by rw [hb94]; rfl)) rfl rfl (x_pickF (hF.tmp 102 rfl) hb102 (hF.tmp 108 rfl)) ?_; clear hF; intro a hF
              refine l_atg hF ((wanted_of hF rfl rfl rfl rfl).trans (by rw [hb87]; rfl)) rfl rfl (x_pickT (hF.tmp 94 rfl) hb94 (hF.tmp 109 rfl)) ?_; clear hF; intro a hF
              refine l_at hF rfl rfl rfl (x_pickF (hF.tmp 87 rfl) hb87 (hF.tmp 110 rfl)) ?_; clear hF; intro a hF
              have hbad : (!(decide (askA m (reqC (gsact xs (k : Int)).req) = t))) = false := by
               have hrq : rightQ (reqC (gsact xs (k : Int)).req) = true := by first | assumption | (simpa using hc64)
               obtain ⟨ho1, ho2, ho3⟩ := once_e (r := (gsact xs (k : Int)).req) hq0_3 hrq
               rcases Int.lt_trichotomy (gsact xs (k : Int)).req.num last with hn | hn | hn
               ·have hE := ho2 hn; first | (exfalso; omega) | (revert hc64 hc69 hc82 hc87 hc94 hc97 hc102 hc105; simp +contextual [hE]; done)
               ·obtain ⟨hE, hF', ho⟩ := ho3 hn; first | (exfalso; omega) | (revert hc64 hc69 hc82 hc87 hc94 hc97 hc102 hc105; simp +contextual [hE, hF', ho]; done)
               ·have hop := ho1 hn; first | (exfalso; omega) | (revert hc64 hc69 hc82 hc87 hc94 hc97 hc102 hc105; simp +contextual [hop]; done)
              have hF := FrD.add hF hF 111 (v := .bool false) ((show Sx.get _ 111 = some (Value.bool (!(decide (askA m (reqC (gsact xs (k : Int)).req) = t)))) from rfl).trans (by rw [hbad]))
              refine wpList_nil ?_
              exact hJr20 _ _  (((((((((hF.bare.add hF 111 rfl).add hF 15 rfl).add hF 13 rfl).add hF 7 rfl).add hF 6 rfl).add hF 5 rfl).add hF 4 rfl).add hF 3 rfl).add hF 0 rfl) (hH.sub _ (sub_cons (sub_cons (sub_cons (sub_cons (sub_cons (sub_cons (sub_cons (sub_cons (sub_cons (sub_cons (sub_cons (sub_cons (sub_cons (sub_cons (sub_cons (sub_cons (sub_cons (sub_cons (sub_nil _) 11 rfl) 70 rfl) 8 rfl) 1506 rfl) 1505 rfl) 1504 rfl) 1503 rfl) 1502 rfl) 1501 rfl) 1500 rfl) 1499 rfl) 1006 rfl) 1003 rfl) 906 rfl) 6 rfl) 100 rfl) 990 rfl) 901 rfl))
             ·have hc105 := hb105; try simp only [Bool.or_eq_true, Bool.and_eq_true, Bool.or_eq_false_iff, Bool.and_eq_false_iff, Bool.not_eq_true', Bool.not_eq_false', decide_eq_true_eq, decide_eq_false_iff_not, Bool.not_true, Bool.not_false] at hc105
              refine l_offg hF ((wanted_of hF rfl rfl rfl rfl).trans (by rw [hb105]; rfl)) rfl rfl ?_; clear hF; intro a hF
              refine l_offg hF ((wanted_of hF rfl rfl rfl rfl).trans (by rw [hb105]; rfl)) rfl rfl ?_; clear hF; intro a hF
              refine l_atg hF ((wanted_of hF rfl rfl rfl rfl).trans (by rw [hb102]; rfl)) rfl rfl (x_pickF (hF.tmp 105 rfl) hb105 rfl) ?_; clear hF; intro a hF
              refine l_atg hF ((wanted_of hF rfl rfl rfl rfl).trans (by rw [hb94]; rfl)) rfl rfl (x_pickF (hF.tmp 102 rfl) hb102 (hF.tmp 108 rfl)) ?_; clear hF; intro a hF
              refine l_atg hF ((wanted_of hF rfl rfl rfl rfl).trans (by rw [hb87]; rfl)) rfl rfl (x_pickT (hF.tmp 94 rfl) hb94 (hF.tmp 109 rfl)) ?_; clear hF; intro a hF
              refine l_at hF rfl rfl rfl (x_pickF (hF.tmp 87 rfl) hb87 (hF.tmp 110 rfl)) ?_; clear hF; intro a hF
              refine wpList_nil ?_
              exact hJr20 _ _  (((((((((hF.bare.add hF 111 rfl).add hF 15 rfl).add hF 13 rfl).add hF 7 rfl).add hF 6 rfl).add hF 5 rfl).add hF 4 rfl).add hF 3 rfl).add hF 0 rfl) (hH.sub _ (sub_cons (sub_cons (sub_cons (sub_cons (sub_cons (sub_cons (sub_cons (sub_cons (sub_cons (sub_cons (sub_cons (sub_cons (sub_cons (sub_cons (sub_cons (sub_cons (sub_cons (sub_cons (sub_nil _) 11 rfl) 70 rfl) 8 rfl) 1506 rfl) 1505 rfl) 1504 rfl) 1503 rfl) 1502 rfl) 1501 rfl) 1500 rfl) 1499 rfl) 1006 rfl) 1003 rfl) 906 rfl) 6 rfl) 100 rfl) 990 rfl) 901 rfl))
          ·have hc94 := hb94; try simp only [Bool.or_eq_true, Bool.and_eq_true, Bool.or_eq_false_iff, Bool.and_eq_false_iff, Bool.not_eq_true', Bool.not_eq_false', decide_eq_true_eq, decide_eq_false_iff_not, Bool.not_true, Bool.not_false] at hc94
           refine l_offg hF ((wanted_of hF rfl rfl rfl rfl).trans (by rw [hb94]; rfl)) rfl rfl ?_; clear hF; intro a hF
           refine l_offg hF ((wanted_of hF rfl rfl rfl rfl).trans (by rw [hb94]; rfl)) rfl rfl ?_; clear hF; intro a hF
           refine l_offg hF ((wanted_of hF rfl rfl rfl rfl).trans (by rw [hb94]; rfl)) rfl rfl ?_; clear hF; intro a hF
           refine l_offg hF (wanted_un hF rfl rfl rfl rfl) rfl rfl ?_; clear hF; intro a hF
           refine l_offg hF (wanted_un hF rfl rfl rfl rfl) rfl rfl ?_; clear hF; intro a hF
           refine l_offg hF (wanted_un hF rfl rfl rfl rfl) rfl rfl ?_; clear hF; intro a hF
           refine l_offg hF ((wanted_of hF rfl rfl rfl rfl).trans (by rw [hb94]; rfl)) rfl rfl ?_; clear hF; intro a hF
           refine l_offg hF ((wanted_of hF rfl rfl rfl rfl).trans (by rw [hb94]; rfl)) rfl rfl ?_; clear hF; intro a hF
           refine l_offg hF (wanted_un hF rfl rfl rfl rfl) rfl rfl ?_; clear hF; intro a hF
           refine l_offg hF (wanted_un hF rfl rfl rfl rfl) rfl rfl ?_; clear hF; intro a hF
           refine l_offg hF (wanted_un hF rfl rfl rfl rfl) rfl rfl ?_; clear hF; intro a hF
           refine l_offg hF (wanted_un hF rfl rfl rfl rfl) rfl rfl ?_; clear hF; intro a hF
           refine l_offg hF (wanted_un hF rfl rfl rfl rfl) rfl rfl ?_; clear hF; intro a hF
           refine l_offg hF (wanted_un hF rfl rfl rfl rfl) rfl rfl ?_; clear hF; intro a hF
           refine l_offg hF ((wanted_of hF rfl rfl rfl rfl).trans (by rw [hb94]; rfl)) rfl rfl ?_; clear hF; intro a hF
           refine l_atg hF ((wanted_of hF rfl rfl rfl rfl).trans (by rw [hb87]; rfl)) rfl rfl (x_pickF (hF.tmp 94 rfl) hb94 rfl) ?_; clear hF; intro a hF
           refine l_at hF rfl rfl rfl (x_pickF (hF.tmp 87 rfl) hb87 (hF.tmp 110 rfl)) ?_; clear hF; intro a hF
           refine wpList_nil ?_
           exact hJr20 _ _  (((((((((hF.bare.add hF 111 rfl).add hF 15 rfl).add hF 13 rfl).add hF 7 rfl).add hF 6 rfl).add hF 5 rfl).add hF 4 rfl).add hF 3 rfl).add hF 0 rfl) (hH.sub _ (sub_cons (sub_cons (sub_cons (sub_cons (sub_cons (sub_cons (sub_cons (sub_cons (sub_cons (sub_cons (sub_cons (sub_cons (sub_cons (sub_cons (sub_cons (sub_cons (sub_cons (sub_cons (sub_nil _) 11 rfl) 70 rfl) 8 rfl) 1506 rfl) 1505 rfl) 1504 rfl) 1503 rfl) 1502 rfl) 1501 rfl) 1500 rfl) 1499 rfl) 1006 rfl) 1003 rfl) 906 rfl) 6 rfl) 100 rfl) 990 rfl) 901 rfl))
        ·have hc82 := hb82; try simp only [Bool.or_eq_true, Bool.and_eq_true, Bool.or_eq_false_iff, Bool.and_eq_false_iff, Bool.not_eq_true', Bool.not_eq_false', decide_eq_true_eq, decide_eq_false_iff_not, Bool.not_true, Bool.not_false] at hc82
         refine l_offg hF ((wanted_of hF rfl rfl rfl rfl).trans (by rw [hb82]; rfl)) rfl rfl ?_; clear hF; intro a hF
         refine l_offg hF ((wanted_of hF rfl rfl rfl rfl).trans (by rw [hb82]; rfl)) rfl rfl ?_; clear hF; intro a hF
         refine l_atg hF ((wanted_of hF rfl rfl rfl rfl).trans rfl) rfl rfl (x_pickF (hF.tmp 82 rfl) hb82 rfl) ?_; clear hF; intro a hF
         refine l_at hF rfl rfl rfl (x_pickF (hF.tmp 75 rfl) rfl (hF.tmp 85 rfl)) ?_; clear hF; intro a hF
         refine l_at hF rfl rfl rfl (x_move (hF.tmp 86 rfl)) ?_; clear hF; intro a hF
         refine l_atg hF ((wanted_of hF rfl rfl rfl rfl).trans rfl) rfl rfl (x_move (hF.tmp 10 rfl)) ?_; clear hF; intro a hF
         refine l_atg hF ((wanted_of hF rfl rfl rfl rfl).trans rfl) rfl rfl (x_move (hF.tmp 88 rfl)) ?_; clear hF; intro a hF
         have hb89 : ((rightQ (reqC (gsact xs (k : Int)).req))) = true := hb64
         refine l_atg hF ((wanted_of hF rfl rfl rfl rfl).trans (by rw [hb89]; rfl)) rfl rfl (x_move (hF.tmp 15 rfl)) ?_; clear hF; intro a hF
         refine l_atg hF ((wanted_of hF rfl rfl rfl rfl).trans (by rw [hb89]; rfl)) rfl rfl (x_move (hF.tmp 4 rfl)) ?_; clear hF; intro a hF
         refine l_atg hF ((wanted_of hF rfl rfl rfl rfl).trans (by rw [hb89]; rfl)) rfl rfl (x_eql (hF.tmp 90 rfl) (hF.tmp 91 rfl)) ?_; clear hF; intro a hF
         refine l_atg hF ((wanted_of hF rfl rfl rfl rfl).trans rfl) rfl rfl (x_pickT (hF.tmp 89 rfl) hb89 (hF.tmp 92 rfl)) ?_; clear hF; intro a hF
         refine l_atg hF ((wanted_of hF rfl rfl rfl rfl).trans rfl) rfl rfl (x_move (hF.tmp 93 rfl)) ?_; clear hF; intro a hF
         refine split_bool hF 94 rfl (fun hb94 => ?_) (fun hb94 => ?_)
         ·have hc94 := hb94; try simp only [Bool.or_eq_true, Bool.and_eq_true, Bool.or_eq_false_iff, Bool.and_eq_false_iff, Bool.not_eq_true', Bool.not_eq_false', decide_eq_true_eq, decide_eq_false_iff_not, Bool.not_true, Bool.not_false] at hc94
          refine l_atg hF ((wanted_of hF rfl rfl rfl rfl).trans (by rw [hb94]; rfl)) rfl rfl (x_move (hF.tmp 13 rfl)) ?_; clear hF; intro a hF
          refine l_atg hF ((wanted_of hF rfl rfl rfl rfl).trans (by rw [hb94]; rfl)) rfl rfl (x_neq (hF.tmp 95 rfl) rfl) ?_; clear hF; intro a hF
          refine l_atg hF ((wanted_of hF rfl rfl rfl rfl).trans (by rw [hb94]; rfl)) rfl rfl (x_move (hF.tmp 96 rfl)) ?_; clear hF; intro a hF
          refine split_bool hF 97 rfl (fun hb97 => ?_) (fun hb97 => ?_)
          ·have hc97 := hb97; try simp only [Bool.or_eq_true, Bool.and_eq_true, Bool.or_eq_false_iff, Bool.and_eq_false_iff, Bool.not_eq_true', Bool.not_eq_false', decide_eq_true_eq, decide_eq_false_iff_not, Bool.not_true, Bool.not_false] at hc97
           refine l_offg hF ((wanted_of hF rfl rfl rfl rfl).trans (by rw [hb97]; rfl)) rfl rfl ?_; clear hF; intro a hF
           refine l_offg hF ((wanted_of hF rfl rfl rfl rfl).trans (by rw [hb97]; rfl)) rfl rfl ?_; clear hF; intro a hF
           refine l_offg hF ((wanted_of hF rfl rfl rfl rfl).trans (by rw [hb97]; rfl)) rfl rfl ?_; clear hF; intro a hF
           refine l_atg hF ((wanted_of hF rfl rfl rfl rfl).trans (by rw [hb94]; rfl)) rfl rfl (x_pickT (hF.tmp 97 rfl) hb97 rfl) ?_; clear hF; intro a hF
           refine l_atg hF ((wanted_of hF rfl rfl rfl rfl).trans (by rw [hb94]; rfl)) rfl rfl (x_move (hF.tmp 101 rfl)) ?_; clear hF; intro a hF
           refine l_offg hF ((wanted_of hF rfl rfl rfl rfl).trans rfl) rfl rfl ?_; clear hF; intro a hF
           refine l_offg hF ((wanted_of hF rfl rfl rfl rfl).trans rfl) rfl rfl ?_; clear hF; intro a hF
           refine l_offg hF ((wanted_of hF rfl rfl rfl rfl).trans rfl) rfl rfl ?_; clear hF; intro a hF
           refine l_offg hF (wanted_un hF rfl rfl rfl rfl) rfl rfl ?_; clear hF; intro a hF
           refine l_offg hF (wanted_un hF rfl rfl rfl rfl) rfl rfl ?_; clear hF; intro a hF
           refine l_offg hF ((wanted_of hF rfl rfl rfl rfl).trans rfl) rfl rfl ?_; clear hF; intro a hF
           refine l_atg hF ((wanted_of hF rfl rfl rfl rfl).trans (by rw [hb94]; rfl)) rfl rfl (x_pickT (hF.tmp 102 rfl) rfl rfl) ?_; clear hF; intro a hF
           refine l_atg hF ((wanted_of hF rfl rfl rfl rfl).trans rfl) rfl rfl (x_pickT (hF.tmp 94 rfl) hb94 (hF.tmp 109 rfl)) ?_; clear hF; intro a hF
           refine l_at hF rfl rfl rfl (x_pickF (hF.tmp 87 rfl) rfl (hF.tmp 110 rfl)) ?_; clear hF; intro a hF
           have hbad : true = false := by
            have hrq : rightQ (reqC (gsact xs (k : Int)).req) = true := by first | assumption | (simpa using hc64)
            obtain ⟨ho1, ho2, ho3⟩ := once_e (r := (gsact xs (k : Int)).req) hq0_3 hrq
            rcases Int.lt_trichotomy (gsact xs (k : Int)).req.num last with hn | hn | hn
            ·have hE := ho2 hn; first | (exfalso; omega) | (revert hc64 hc69 hc82 hc94 hc97; simp +contextual [hE]; done)
            ·obtain ⟨hE, hF', ho⟩ := ho3 hn; first | (exfalso; omega) | (revert hc64 hc69 hc82 hc94 hc97; simp +contextual [hE, hF', ho]; done)
            ·have hop := ho1 hn; first | (exfalso; omega) | (revert hc64 hc69 hc82 hc94 hc97; simp +contextual [hop]; done)
           have hF := FrD.add hF hF 111 (v := .bool false) ((show Sx.get _ 111 = some (Value.bool true) from rfl).trans (by rw [hbad]))
           refine wpList_nil ?_
           exact hJr20 _ _  (((((((((hF.bare.add hF 111 rfl).add hF 15 rfl).add hF 13 rfl).add hF 7 rfl).add hF 6 rfl).add hF 5 rfl).add hF 4 rfl).add hF 3 rfl).add hF 0 rfl) (hH.sub _ (sub_cons (sub_cons (sub_cons (sub_cons (sub_cons (sub_cons (sub_cons (sub_cons (sub_cons (sub_cons (sub_cons (sub_cons (sub_cons (sub_cons (sub_cons (sub_cons (sub_cons (sub_cons (sub_nil _) 11 rfl) 70 rfl) 8 rfl) 1506 rfl) 1505 rfl) 1504 rfl) 1503 rfl) 1502 rfl) 1501 rfl) 1500 rfl) 1499 rfl) 1006 rfl) 1003 rfl) 906 rfl) 6 rfl) 100 rfl) 990 rfl) 901 rfl))
          ·have hc97 := hb97; try simp only [Bool.or_eq_true, Bool.and_eq_true, Bool.or_eq_false_iff, Bool.and_eq_false_iff, Bool.not_eq_true', Bool.not_eq_false', decide_eq_true_eq, decide_eq_false_iff_not, Bool.not_true, Bool.not_false] at hc97
           refine l_atg hF ((wanted_of hF rfl rfl rfl rfl).trans (by rw [hb97]; rfl)) rfl rfl (x_move (hF.tmp 12 rfl)) ?_; clear hF; intro a hF
           refine l_atg hF ((wanted_of hF rfl rfl rfl rfl).trans (by rw [hb97]; rfl)) rfl rfl (x_move (hF.tmp 5 rfl)) ?_; clear hF; intro a hF
           refine l_atg hF ((wanted_of hF rfl rfl rfl rfl).trans (by rw [hb97]; rfl)) rfl rfl (x_eqb (hF.tmp 98 rfl) (hF.tmp 99 rfl) Tryd.underlying4) ?_; clear hF; intro a hF
           refine l_atg hF ((wanted_of hF rfl rfl rfl rfl).trans (by rw [hb94]; rfl)) rfl rfl (x_pickF (hF.tmp 97 rfl) hb97 (hF.tmp 100 rfl)) ?_; clear hF; intro a hF
           refine l_atg hF ((wanted_of hF rfl rfl rfl rfl).trans (by rw [hb94]; rfl)) rfl rfl (x_move (hF.tmp 101 rfl)) ?_; clear hF; intro a hF
           refine split_bool hF 102 rfl (fun hb102 => ?_) (fun hb102 => ?_)
           ·have hc102 := hb102; try simp only [Bool.or_eq_true, Bool.and_eq_true, Bool.or_eq_false_iff, Bool.and_eq_false_iff, Bool.not_eq_true', Bool.not_eq_false', decide_eq_true_eq, decide_eq_false_iff_not, Bool.not_true, Bool.not_false] at hc102
            refine l_offg hF ((wanted_of hF rfl rfl rfl rfl).trans (by rw [hb102]; rfl)) rfl rfl ?_; clear hF; intro a hF
            refine l_offg hF ((wanted_of hF rfl rfl rfl rfl).trans (by rw [hb102]; rfl)) rfl rfl ?_; clear hF; intro a hF
            refine l_offg hF ((wanted_of hF rfl rfl rfl rfl).trans (by rw [hb102]; rfl)) rfl rfl ?_; clear hF; intro a hF
            refine l_offg hF (wanted_un hF rfl rfl rfl rfl) rfl rfl ?_; clear hF; intro a hF
            refine l_offg hF (wanted_un hF rfl rfl rfl rfl) rfl rfl ?_; clear hF; intro a hF
            refine l_offg hF ((wanted_of hF rfl rfl rfl rfl).trans (by rw [hb102]; rfl)) rfl rfl ?_; clear hF; intro a hF
            refine l_atg hF ((wanted_of hF rfl rfl rfl rfl).trans (by rw [hb94]; rfl)) rfl rfl (x_pickT (hF.tmp 102 rfl) hb102 rfl) ?_; clear hF; intro a hF
            refine l_atg hF ((wanted_of hF rfl rfl rfl rfl).trans rfl) rfl rfl (x_pickT (hF.tmp 94 rfl) hb94 (hF.tmp 109 rfl)) ?_; clear hF; intro a hF
            refine l_at hF rfl rfl rfl (x_pickF (hF.tmp 87 rfl) rfl (hF.tmp 110 rfl)) ?_; clear hF; intro a hF
            have hbad : true = false := by
             have hrq : rightQ (reqC (gsact xs (k : Int)).req) = true := by first | assumption | (simpa using hc64)
             obtain ⟨ho1, ho2, ho3⟩ := once_e (r := (gsact xs (k : Int)).req) hq0_3 hrq
             rcases Int.lt_trichotomy (gsact xs (k : Int)).req.num last with hn | hn | hn
             ·have hE := ho2 hn; first | (exfalso; omega) | (revert hc64 hc69 hc82 hc94 hc97 hc102; simp +contextual [hE]; done)
             ·obtain ⟨hE, hF', ho⟩ := ho3 hn; first | (exfalso; omega) | (revert hc64 hc69 hc82 hc94 hc97 hc102; simp +contextual [hE, hF', ho]; done)
             ·have hop := ho1 hn; first | (exfalso; omega) | (revert hc64 hc69 hc82 hc94 hc97 hc102; simp +contextual [hop]; done)
            have hF := FrD.add hF hF 111 (v := .bool false) ((show Sx.get _ 111 = some (Value.bool true) from rfl).trans (by rw [hbad]))
            refine wpList_nil ?_
            exact hJr20 _ _  (((((((((hF.bare.add hF 111 rfl).add hF 15 rfl).add hF 13 rfl).add hF 7 rfl).add hF 6 rfl).add hF 5 rfl).add hF 4 rfl).add hF 3 rfl).add hF 0 rfl) (hH.sub _ (sub_cons (sub_cons (sub_cons (sub_cons (sub_cons (sub_cons (sub_cons (sub_cons (sub_cons (sub_cons (sub_cons (sub_cons (sub_cons (sub_cons (sub_cons (sub_cons (sub_cons (sub_cons (sub_nil _) 11 rfl) 70 rfl) 8 rfl) 1506 rfl) 1505 rfl) 1504 rfl) 1503 rfl) 1502 rfl) 1501 rfl) 1500 rfl) 1499 rfl) 1006 rfl) 1003 rfl) 906 rfl) 6 rfl) 100 rfl) 990 rfl) 901 rfl))
           ·have hc102 := hb102; try simp only [Bool.or_eq_true, Bool.and_eq_true, Bool.or_eq_false_iff, Bool.and_eq_false_iff, Bool.not_eq_true', Bool.not_eq_false', decide_eq_true_eq, decide_eq_false_iff_not, Bool.not_true, Bool.not_false] at hc102
            refine l_atg hF ((wanted_of hF rfl rfl rfl rfl).trans (by rw [hb102]; rfl)) rfl rfl (x_move (hF.tmp 5 rfl)) ?_; clear hF; intro a hF
            refine l_atg hF ((wanted_of hF rfl rfl rfl rfl).trans (by rw [hb102]; rfl)) rfl rfl (x_not (hF.tmp 103 rfl)) ?_; clear hF; intro a hF
            refine l_atg hF ((wanted_of hF rfl rfl rfl rfl).trans (by rw [hb102]; rfl)) rfl rfl (x_move (hF.tmp 104 rfl)) ?_; clear hF; intro a hF
            refine split_bool hF 105 rfl (fun hb105 => ?_) (fun hb105 => ?_)
            ·have hc105 := hb105; try simp only [Bool.or_eq_true, Bool.and_eq_true, Bool.or_eq_false_iff, Bool.and_eq_false_iff, Bool.not_eq_true', Bool.not_eq_false', decide_eq_true_eq, decide_eq_false_iff_not, Bool.not_true, Bool.not_false] at hc105
             refine l_atg hF ((wanted_of hF rfl rfl rfl rfl).trans (by rw [hb105]; rfl)) rfl rfl (x_move (hF.tmp 14 rfl)) ?_; clear hF; intro a hF
             refine l_atg hF ((wanted_of hF rfl rfl rfl rfl).trans (by rw [hb105]; rfl)) rfl rfl (x_not (hF.tmp 106 rfl)) ?_; clear hF; intro a hF
             refine l_atg hF ((wanted_of hF rfl rfl rfl rfl).trans (by rw [hb102]; rfl)) rfl rfl (x_pickT (hF.tmp 105 rfl) hb105 (hF.tmp 107 rfl)) ?_; clear hF; intro a hF
             refine l_atg hF ((wanted_of hF rfl rfl rfl rfl).trans (by rw [hb94]; rfl)) rfl rfl (x_pickF (hF.tmp 102 rfl) hb102 (hF.tmp 108 rfl)) ?_; clear hF; intro a hF
             refine l_atg hF ((wanted_of hF rfl rfl rfl rfl).trans rfl) rfl rfl (x_pickT (hF.tmp 94 rfl) hb94 (hF.tmp 109 rfl)) ?_; clear hF; intro a hF
             refine l_at hF rfl rfl rfl (x_pickF (hF.tmp 87 rfl) rfl (hF.tmp 110 rfl)) ?_; clear hF; intro a hF
             have hbad : (!(decide (askA m (reqC (gsact xs (k : Int)).req) = t))) = false := by
              have hrq : rightQ (reqC (gsact xs (k : Int)).req) = true := by first | assumption | (simpa using hc64)
              obtain ⟨ho1, ho2, ho3⟩ := once_e (r := (gsact xs (k : Int)).req) hq0_3 hrq
              rcases Int.lt_trichotomy (gsact xs (k : Int)).req.num last with hn | hn | hn
              ·have hE := ho2 hn; first | (exfalso; omega) | (revert hc64 hc69 hc82 hc94 hc97 hc102 hc105; simp +contextual [hE]; done)
              ·obtain ⟨hE, hF', ho⟩ := ho3 hn; first | (exfalso; omega) | (revert hc64 hc69 hc82 hc94 hc97 hc102 hc105; simp +contextual [hE, hF', ho]; done)
              ·have hop := ho1 hn; first | (exfalso; omega) | (revert hc64 hc69 hc82 hc94 hc97 hc102 hc105; simp +contextual [hop]; done)
             have hF := FrD.add hF hF 111 (v := .bool false) ((show Sx.get _ 111 = some (Value.bool (!(decide (askA m (reqC (gsact xs (k : Int)).req) = t)))) from rfl).trans (by rw [hbad]))
             refine wpList_nil ?_
             exact hJr20 _ _  (((((((((hF.bare.add hF 111 rfl).add hF 15 rfl).add hF 13 rfl).add hF 7 rfl).add hF 6 rfl).add hF 5 rfl).add hF 4 rfl).add hF 3 rfl).add hF 0 rfl) (hH.sub _ (sub_cons (sub_cons (sub_cons (sub_cons (sub_cons (sub_cons (sub_cons (sub_cons (sub_cons (sub_cons (sub_cons (sub_cons (sub_cons (sub_cons (sub_cons (sub_cons (sub_cons (sub_cons (sub_nil _) 11 rfl) 70 rfl) 8 rfl) 1506 rfl) 1505 rfl) 1504 rfl) 1503 rfl) 1502 rfl) 1501 rfl) 1500 rfl) 1499 rfl) 1006 rfl) 1003 rfl) 906 rfl) 6 rfl) 100 rfl) 990 rfl) 901 rfl))
            ·have hc105 := hb105; try simp only [Bool.or_eq_true, Bool.and_eq_true, Bool.or_eq_false_iff, Bool.and_eq_false_iff, Bool.not_eq_true', Bool.not_eq_false', decide_eq_true_eq, decide_eq_false_iff_not, Bool.not_true, Bool.not_false] at hc105
             refine l_offg hF ((wanted_of hF rfl rfl rfl rfl).trans (by rw [hb105]; rfl)) rfl rfl ?_; clear hF; intro a hF
             refine l_offg hF ((wanted_of hF rfl rfl rfl rfl).trans (by rw [hb105]; rfl)) rfl rfl ?_; clear hF; intro a hF
             refine l_atg hF ((wanted_of hF rfl rfl rfl rfl).trans (by rw [hb102]; rfl)) rfl rfl (x_pickF (hF.tmp 105 rfl) hb105 rfl) ?_; clear hF; intro a hF
             refine l_atg hF ((wanted_of hF rfl rfl rfl rfl).trans (by rw [hb94]; rfl)) rfl rfl (x_pickF (hF.tmp 102 rfl) hb102 (hF.tmp 108 rfl)) ?_; clear hF; intro a hF
             refine l_atg hF ((wanted_of hF rfl rfl rfl rfl).trans rfl) rfl rfl (x_pickT (hF.tmp 94 rfl) hb94 (hF.tmp 109 rfl)) ?_; clear hF; intro a hF
             refine l_at hF rfl rfl rfl (x_pickF (hF.tmp 87 rfl) rfl (hF.tmp 110 rfl)) ?_; clear hF; intro a hF
             refine wpList_nil ?_
             exact hJr20 _ _  (((((((((hF.bare.add hF 111 rfl).add hF 15 rfl).add hF 13 rfl).add hF 7 rfl).add hF 6 rfl).add hF 5 rfl).add hF 4 rfl).add hF 3 rfl).add hF 0 rfl) (hH.sub _ (sub_cons (sub_cons (sub_cons (sub_cons (sub_cons (sub_cons (sub_cons (sub_cons (sub_cons (sub_cons (sub_cons (sub_cons (sub_cons (sub_cons (sub_cons (sub_cons (sub_cons (sub_cons (sub_nil _) 11 rfl) 70 rfl) 8 rfl) 1506 rfl) 1505 rfl) 1504 rfl) 1503 rfl) 1502 rfl) 1501 rfl) 1500 rfl) 1499 rfl) 1006 rfl) 1003 rfl) 906 rfl) 6 rfl) 100 rfl) 990 rfl) 901 rfl))
         ·have hc94 := hb94; try simp only [Bool.or_eq_true, Bool.and_eq_true, Bool.or_eq_false_iff, Bool.and_eq_false_iff, Bool.not_eq_true', Bool.not_eq_false', decide_eq_true_eq, decide_eq_false_iff_not, Bool.not_true, Bool.not_false] at hc94
          refine l_offg hF ((wanted_of hF rfl rfl rfl rfl).trans (by rw [hb94]; rfl)) rfl rfl ?_; clear hF; intro a hF
          refine l_offg hF ((wanted_of hF rfl rfl rfl rfl).trans (by rw [hb94]; rfl)) rfl rfl ?_; clear hF; intro a hF
          refine l_offg hF ((wanted_of hF rfl rfl rfl rfl).trans (by rw [hb94]; rfl)) rfl rfl ?_; clear hF; intro a hF
          refine l_offg hF (wanted_un hF rfl rfl rfl rfl) rfl rfl ?_; clear hF; intro a hF
          refine l_offg hF (wanted_un hF rfl rfl rfl rfl) rfl rfl ?_; clear hF; intro a hF
          refine l_offg hF (wanted_un hF rfl rfl rfl rfl) rfl rfl ?_; clear hF; intro a hF
          refine l_offg hF ((wanted_of hF rfl rfl rfl rfl).trans (by rw [hb94]; rfl)) rfl rfl ?_; clear hF; intro a hF
          refine l_offg hF ((wanted_of hF rfl rfl rfl rfl).trans (by rw [hb94]; rfl)) rfl rfl ?_; clear hF; intro a hF
          refine l_offg hF (wanted_un hF rfl rfl rfl rfl) rfl rfl ?_; clear hF; intro a hF
          refine l_offg hF (wanted_un hF rfl rfl rfl rfl) rfl rfl ?_; clear hF; intro a hF
          refine l_offg hF (wanted_un hF rfl rfl rfl rfl) rfl rfl ?_; clear hF; intro a hF
          refine l_offg hF (wanted_un hF rfl rfl rfl rfl) rfl rfl ?_; clear hF; intro a hF
          refine l_offg hF (wanted_un hF rfl rfl rfl rfl) rfl rfl ?_; clear hF; intro a hF
          refine l_offg hF (wanted_un hF rfl rfl rfl rfl) rfl rfl ?_; clear hF; intro a hF
          refine l_offg hF ((wanted_of hF rfl rfl rfl rfl).trans (by rw [hb94]; rfl)) rfl rfl ?_; clear hF; intro a hF
          refine l_atg hF ((wanted_of hF rfl rfl rfl rfl).trans rfl) rfl rfl (x_pickF (hF.tmp 94 rfl) hb94 rfl) ?_; clear hF; intro a hF
          refine l_at hF rfl rfl rfl (x_pickF (hF.tmp 87 rfl) rfl (hF.tmp 110 rfl)) ?_; clear hF; intro a hF
          refine wpList_nil ?_
          exact hJr20 _ _  (((((((((hF.bare.add hF 111 rfl).add hF 15 rfl).add hF 13 rfl).add hF 7 rfl).add hF 6 rfl).add hF 5 rfl).add hF 4 rfl).add hF 3 rfl).add hF 0 rfl) (hH.sub _ (sub_cons (sub_cons (sub_cons (sub_cons (sub_cons (sub_cons (sub_cons (sub_cons (sub_cons (sub_cons (sub_cons (sub_cons (sub_cons (sub_cons (sub_cons (sub_cons (sub_cons (sub_cons (sub_nil _) 11 rfl) 70 rfl) 8 rfl) 1506 rfl) 1505 rfl) 1504 rfl) 1503 rfl) 1502 rfl) 1501 rfl) 1500 rfl) 1499 rfl) 1006 rfl) 1003 rfl) 906 rfl) 6 rfl) 100 rfl) 990 rfl) 901 rfl))
      ·have hc64 := hb64; try simp only [Bool.or_eq_true, Bool.and_eq_true, Bool.or_eq_false_iff, Bool.and_eq_false_iff, Bool.not_eq_true', Bool.not_eq_false', decide_eq_true_eq, decide_eq_false_iff_not, Bool.not_true, Bool.not_false] at hc64
       refine l_offg hF ((wanted_of hF rfl rfl rfl rfl).trans (by rw [hb64]; rfl)) rfl rfl ?_; clear hF; intro a hF
       refine l_offg hF ((wanted_of hF rfl rfl rfl rfl).trans (by rw [hb64]; rfl)) rfl rfl ?_; clear hF; intro a hF
       refine l_offg hF ((wanted_of hF rfl rfl rfl rfl).trans (by rw [hb64]; rfl)) rfl rfl ?_; clear hF; intro a hF
       refine l_at hF rfl rfl rfl (x_pickF (hF.tmp 64 rfl) hb64 rfl) ?_; clear hF; intro a hF
       refine l_at hF rfl rfl rfl (x_move (hF.tmp 68 rfl)) ?_; clear hF; intro a hF
       refine l_offg hF ((wanted_of hF rfl rfl rfl rfl).trans rfl) rfl rfl ?_; clear hF; intro a hF
       refine l_offg hF ((wanted_of hF rfl rfl rfl rfl).trans rfl) rfl rfl ?_; clear hF; intro a hF
       refine l_offg hF ((wanted_of hF rfl rfl rfl rfl).trans rfl) rfl rfl ?_; clear hF; intro a hF
       refine l_offg hF ((wanted_of hF rfl rfl rfl rfl).trans rfl) rfl rfl ?_; clear hF; intro a hF
       refine l_at hF rfl rfl rfl (x_pickF (hF.tmp 69 rfl) rfl rfl) ?_; clear hF; intro a hF
       refine l_at hF rfl rfl rfl (x_move (hF.tmp 74 rfl)) ?_; clear hF; intro a hF
       refine l_atg hF ((wanted_of hF rfl rfl rfl rfl).trans rfl) rfl rfl (x_move (hF.tmp 10 rfl)) ?_; clear hF; intro a hF
       refine l_atg hF ((wanted_of hF rfl rfl rfl rfl).trans rfl) rfl rfl (x_move (hF.tmp 76 rfl)) ?_; clear hF; intro a hF
       have hb77 : ((rightQ (reqC (gsact xs (k : Int)).req))) = false := hb64
       refine l_offg hF ((wanted_of hF rfl rfl rfl rfl).trans (by rw [hb77]; rfl)) rfl rfl ?_; clear hF; intro a hF
       refine l_offg hF ((wanted_of hF rfl rfl rfl rfl).trans (by rw [hb77]; rfl)) rfl rfl ?_; clear hF; intro a hF
       refine l_offg hF ((wanted_of hF rfl rfl rfl rfl).trans (by rw [hb77]; rfl)) rfl rfl ?_; clear hF; intro a hF
       refine l_atg hF ((wanted_of hF rfl rfl rfl rfl).trans rfl) rfl rfl (x_pickF (hF.tmp 77 rfl) hb77 rfl) ?_; clear hF; intro a hF
       refine l_atg hF ((wanted_of hF rfl rfl rfl rfl).trans rfl) rfl rfl (x_move (hF.tmp 81 rfl)) ?_; clear hF; intro a hF
       refine l_offg hF ((wanted_of hF rfl rfl rfl rfl).trans rfl) rfl rfl ?_; clear hF; intro a hF
       refine l_offg hF ((wanted_of hF rfl rfl rfl rfl).trans rfl) rfl rfl ?_; clear hF; intro a hF
       refine l_atg hF ((wanted_of hF rfl rfl rfl rfl).trans rfl) rfl rfl (x_pickF (hF.tmp 82 rfl) rfl rfl) ?_; clear hF; intro a hF
       refine l_at hF rfl rfl rfl (x_pickF (hF.tmp 75 rfl) rfl (hF.tmp 85 rfl)) ?_; clear hF; intro a hF
       refine l_at hF rfl rfl rfl (x_move (hF.tmp 86 rfl)) ?_; clear hF; intro a hF
       refine l_atg hF ((wanted_of hF rfl rfl rfl rfl).trans rfl) rfl rfl (x_move (hF.tmp 10 rfl)) ?_; clear hF; intro a hF
       refine l_atg hF ((wanted_of hF rfl rfl rfl rfl).trans rfl) rfl rfl (x_move (hF.tmp 88 rfl)) ?_; clear hF; intro a hF
       have hb89 : ((rightQ (reqC (gsact xs (k : Int)).req))) = false := hb64
       refine l_offg hF ((wanted_of hF rfl rfl rfl rfl).trans (by rw [hb89]; rfl)) rfl rfl ?_; clear hF; intro a hF
       refine l_offg hF ((wanted_of hF rfl rfl rfl rfl).trans (by rw [hb89]; rfl)) rfl rfl ?_; clear hF; intro a hF
       refine l_offg hF ((wanted_of hF rfl rfl rfl rfl).trans (by rw [hb89]; rfl)) rfl rfl ?_; clear hF; intro a hF
       refine l_atg hF ((wanted_of hF rfl rfl rfl rfl).trans rfl) rfl rfl (x_pickF (hF.tmp 89 rfl) hb89 rfl) ?_; clear hF; intro a hF
       refine l_atg hF ((wanted_of hF rfl rfl rfl rfl).trans rfl) rfl rfl (x_move (hF.tmp 93 rfl)) ?_; clear hF; intro a hF
       refine l_offg hF ((wanted_of hF rfl rfl rfl rfl).trans rfl) rfl rfl ?_; clear hF; intro a hF
       refine l_offg hF ((wanted_of hF rfl rfl rfl rfl).trans rfl) rfl rfl ?_; clear hF; intro a hF
       refine l_offg hF ((wanted_of hF rfl rfl rfl rfl).trans rfl) rfl rfl ?_; clear hF; intro a hF
       refine l_offg hF (wanted_un hF rfl rfl rfl rfl) rfl rfl ?_; clear hF; intro a hF
       refine l_offg hF (wanted_un hF rfl rfl rfl rfl) rfl rfl ?_; clear hF; intro a hF
       refine l_offg hF (wanted_un hF rfl rfl rfl rfl) rfl rfl ?_; clear hF; intro a hF
       refine l_offg hF ((wanted_of hF rfl rfl rfl rfl).trans rfl) rfl rfl ?_; clear hF; intro a hF
       refine l_offg hF ((wanted_of hF rfl rfl rfl rfl).trans rfl) rfl rfl ?_; clear hF; intro a hF
       refine l_offg hF (wanted_un hF rfl rfl rfl rfl) rfl rfl ?_; clear hF; intro a hF
       refine l_offg hF (wanted_un hF rfl rfl rfl rfl) rfl rfl ?_; clear hF; intro a hF
       refine l_offg hF (wanted_un hF rfl rfl rfl rfl) rfl rfl ?_; clear hF; intro a hF
       refine l_offg hF (wanted_un hF rfl rfl rfl rfl) rfl rfl ?_; clear hF; intro a hF
       refine l_offg hF (wanted_un hF rfl rfl rfl rfl) rfl rfl ?_; clear hF; intro a hF
       refine l_offg hF (wanted_un hF rfl rfl rfl rfl) rfl rfl ?_; clear hF; intro a hF
       refine l_offg hF ((wanted_of hF rfl rfl rfl rfl).trans rfl) rfl rfl ?_; clear hF; intro a hF
       refine l_atg hF ((wanted_of hF rfl rfl rfl rfl).trans rfl) rfl rfl (x_pickF (hF.tmp 94 rfl) rfl rfl) ?_; clear hF; intro a hF
       refine l_at hF rfl rfl rfl (x_pickF (hF.tmp 87 rfl) rfl (hF.tmp 110 rfl)) ?_; clear hF; intro a hF
       refine wpList_nil ?_
       exact hJr20 _ _  (((((((((hF.bare.add hF 111 rfl).add hF 15 rfl).add hF 13 rfl).add hF 7 rfl).add hF 6 rfl).add hF 5 rfl).add hF 4 rfl).add hF 3 rfl).add hF 0 rfl) (hH.sub _ (sub_cons (sub_cons (sub_cons (sub_cons (sub_cons (sub_cons (sub_cons (sub_cons (sub_cons (sub_cons (sub_cons (sub_cons (sub_cons (sub_cons (sub_cons (sub_cons (sub_cons (sub_cons (sub_nil _) 11 rfl) 70 rfl) 8 rfl) 1506 rfl) 1505 rfl) 1504 rfl) 1503 rfl) 1502 rfl) 1501 rfl) 1500 rfl) 1499 rfl) 1006 rfl) 1003 rfl) 906 rfl) 6 rfl) 100 rfl) 990 rfl) 901 rfl))
     ·have hk45_7 := hc45; try simp only [Bool.or_eq_true, Bool.and_eq_true, Bool.or_eq_false_iff, Bool.and_eq_false_iff, Bool.not_eq_true', Bool.not_eq_false', decide_eq_true_eq, decide_eq_false_iff_not, Bool.not_true, Bool.not_false] at hc45
      refine wp_seq_k fun khK29 hK29 => ?_
      refine wp_seq_k fun khK30 hK30 => ?_
      refine wp_region_lit ?_
      refine l_at hF rfl rfl rfl (x_eql (hF.tmp 44 rfl) rfl) ?_; clear hF; intro a hF
      refine l_at hF rfl rfl rfl (x_assign (hF.tmp 122 rfl)) ?_; clear hF; intro a hF
      refine wpList_nil ?_
      refine hK30 _ _ ?_
      refine wp_cond_split (hF.tmp 121 rfl) (fun hc121 => ?_) (fun hc121 => ?_)
      ·have hk121_8 := hc121; try simp only [Bool.or_eq_true, Bool.and_eq_true, Bool.or_eq_false_iff, Bool.and_eq_false_iff, Bool.not_eq_true', Bool.not_eq_false', decide_eq_true_eq, decide_eq_false_iff_not, Bool.not_true, Bool.not_false] at hc121
       refine wp_skip ?_
       refine hK29 _ _ ?_
       refine wp_cond_true ((hF.tmp 121 rfl).trans (by rw [hk121_8])) ?_
       refine wp_seq_k fun khK31 hK31 => ?_
       refine wp_region_lit ?_
       refine l_at hF rfl rfl rfl (x_move (hF.tmp 3 rfl)) ?_; clear hF; intro a hF
       refine l_at hF rfl rfl rfl (x_move (hF.tmp 4 rfl)) ?_; clear hF; intro a hF
       refine l_at hF rfl rfl rfl (x_faddr Tryd.underlying64 rfl ty62 (by decide) (hF.tmp 8 rfl) rfl) ?_; clear hF; intro a hF
       refine l_at hF rfl rfl rfl (x_loadn (cs := #[.int .i64 (gsact xs (k : Int)).ans.outcome, .int .i64 (gsact xs (k : Int)).ans.err, .slice fA1_1 (gsact xs (k : Int)).ans.results.length fc1_1]) ty62 (hF.tmp 126 rfl) rfl (blk_sub (hH.at 8 rfl) 4 3 rfl)) ?_; clear hF; intro a hF
       refine wpList_plain rfl fun K hK => ?_
       refine w_call hF (x_enter Tryd.func30 (by kernel_rfl) rfl (by simp only [List.map_toArray, List.map_cons, List.map_nil, hF.tmp 124 rfl, hF.tmp 125 rfl, hF.tmp 127 rfl] <;> rfl)) (finish_calls (y := (gsact xs (k : Int)).ans) _ hq0_1 (hH.okX 100 rfl) hq0_2 (strOfNums ([99, 108, 105, 101, 110, 116] : List Int)) last ((hH.rd 1006 rfl)) ⟨hbx.ans, hf40⟩ (fun k h => hH.inb 1006 _ rfl k (.inr h)) (fun k h hx => hH.sep 100 1006 _ _ (by decide) rfl rfl k hx (.inr h))) rfl rfl ?_
       rintro _ w ⟨X1, rfl, hX1, hg_⟩; refine ⟨_, rfl, ?_⟩; clear hF; intro a hF; have hH := hH.grew 100 rfl hg_ (fun k hk => hk.elim)
       refine hK _ _ ?_; clear hK K
       refine l_at hF rfl rfl rfl (x_assign (hF.tmp 128 rfl)) ?_; clear hF; intro a hF
       refine wpList_nil ?_
       refine hK31 _ _ ?_
       refine wp_seq_k fun khK32 hK32 => ?_
       refine wp_seq_k fun khK33 hK33 => ?_
       refine wp_region_lit ?_
       refine l_at hF rfl rfl rfl (x_move (hF.tmp 16 rfl)) ?_; clear hF; intro a hF
       refine l_at hF rfl rfl rfl (x_eql (hF.tmp 129 rfl) rfl) ?_; clear hF; intro a hF
       refine l_at hF rfl rfl rfl (x_move (hF.tmp 5 rfl)) ?_; clear hF; intro a hF
       refine l_at hF rfl rfl rfl (x_move (hF.tmp 131 rfl)) ?_; clear hF; intro a hF
       refine split_bool hF 132 rfl (fun hb132 => ?_) (fun hb132 => ?_)
       ·have hc132 := hb132; try simp only [Bool.or_eq_true, Bool.and_eq_true, Bool.or_eq_false_iff, Bool.and_eq_false_iff, Bool.not_eq_true', Bool.not_eq_false', decide_eq_true_eq, decide_eq_false_iff_not, Bool.not_true, Bool.not_false] at hc132
        refine l_atg hF ((wanted_of hF rfl rfl rfl rfl).trans (by rw [hb132]; rfl)) rfl rfl (x_move (hF.tmp 4 rfl)) ?_; clear hF; intro a hF
        refine l_atg hF ((wanted_of hF rfl rfl rfl rfl).trans (by rw [hb132]; rfl)) rfl rfl (x_gtr (hF.tmp 133 rfl) rfl) ?_; clear hF; intro a hF
        refine l_at hF rfl rfl rfl (x_pickT (hF.tmp 132 rfl) hb132 (hF.tmp 134 rfl)) ?_; clear hF; intro a hF
        refine l_at hF rfl rfl rfl (x_neb (hF.tmp 130 rfl) (hF.tmp 135 rfl) Tryd.underlying4) ?_; clear hF; intro a hF
        have hbad2 : (!((decide ((finE m (strOfNums ([99, 108, 105, 101, 110, 116] : List Int)) last) = 0)) == (decide (0 < last)))) = false := by have h_ : decide ((finE m (strOfNums ([99, 108, 105, 101, 110, 116] : List Int)) last) = 0) = (op && decide (0 < last)) := (once_fin (gsact xs (k : Int)).ans hq0_3).1; rw [h_, hc132]; simp
        have hF := FrD.add hF hF 136 (v := .bool false) ((show Sx.get _ 136 = some (Value.bool (!((decide ((finE m (strOfNums ([99, 108, 105, 101, 110, 116] : List Int)) last) = 0)) == (decide (0 < last))))) from rfl).trans (by rw [hbad2]))
        refine wpList_nil ?_
        refine hK33 _ _ ?_
        refine wp_cond_false (hF.tmp 136 rfl) ?_
        refine wp_skip ?_
        refine hK32 _ _ ?_
        refine wp_seq_k fun khK34 hK34 => ?_
        refine wp_region_lit ?_
        refine l_at hF rfl rfl rfl (x_move (hF.tmp 16 rfl)) ?_; clear hF; intro a hF
        refine l_at hF rfl rfl rfl (x_eql (hF.tmp 137 rfl) rfl) ?_; clear hF; intro a hF
        refine wpList_nil ?_
        refine hK34 _ _ ?_
        refine wp_cond_split (hF.tmp 138 rfl) (fun hc138 => ?_) (fun hc138 => ?_)
        ·have hk138_9 := hc138; try simp only [Bool.or_eq_true, Bool.and_eq_true, Bool.or_eq_false_iff, Bool.and_eq_false_iff, Bool.not_eq_true', Bool.not_eq_false', decide_eq_true_eq, decide_eq_false_iff_not, Bool.not_true, Bool.not_false] at hc138
         refine wp_seq_k fun khK35 hK35 => ?_
         refine wp_region_lit ?_
         refine l_at hF rfl rfl rfl (x_assign rfl) ?_; clear hF; intro a hF
         refine wpList_nil ?_
         refine hK35 _ _ ?_
         refine wp_region_lit ?_
         refine l_at hF rfl rfl rfl (x_faddr Tryd.underlying64 rfl ty62 (by decide) (hF.tmp 8 rfl) rfl) ?_; clear hF; intro a hF
         refine l_at hF rfl rfl rfl (x_loadn (cs := #[.int .i64 (gsact xs (k : Int)).ans.outcome, .int .i64 (gsact xs (k : Int)).ans.err, .slice fA1_1 (gsact xs (k : Int)).ans.results.length fc1_1]) ty62 (hF.tmp 139 rfl) rfl (blk_sub (hH.at 8 rfl) 4 3 rfl)) ?_; clear hF; intro a hF
         refine wpList_plain rfl fun K hK => ?_
         refine w_storeA 6 hH ty62 rfl (hF.tmp 6 rfl) (hF.tmp 140 rfl) rfl (by simp [Value.cells, Value.oneCell']) rfl ?_
         clear hH; intro w hH
         refine hK _ _ ?_; clear hK K
         have hH := hH.subrd 1006 rfl 906 (hH.rd 1006 rfl) (fun _ h => h)
         refine wpList_nil ?_
         refine hK12 _ _ ?_
         refine wp_region_lit ?_
         refine l_at hF rfl rfl rfl (x_move (hF.tmp 7 rfl)) ?_; clear hF; intro a hF
         refine l_at hF rfl rfl rfl (x_add (hF.tmp 28 rfl) rfl (w64 (by omega) (by omega))) ?_; clear hF; intro a hF
         refine l_at hF rfl rfl rfl (x_assign (hF.tmp 29 rfl)) ?_; clear hF; intro a hF
         refine wpList_nil ?_
         exact ⟨_, by omega, ⟨k + 1, X1, (finM m (strOfNums ([99, 108, 105, 101, 110, 116] : List Int)) last (gsact xs (k : Int)).ans), last, false, (gsact xs (k : Int)).ans, (fA1_1), fc1_1, (fun k => k < w0.heap.size), rfl, by omega, hX1, (fin_ok hq0_2 _ _ ⟨hbx.ans, hf40⟩), (once_fin (gsact xs (k : Int)).ans hq0_3).2.1 (by first | assumption | simp_all | omega), hbx.ans, ((((((hF.bare.add hF 7 rfl).add hF 6 rfl).add hF 5 rfl).add hF 4 rfl).add hF 3 rfl).add hF 0 rfl), hH.sub _ (sub_cons (sub_cons (sub_cons (sub_cons (sub_cons (sub_nil _) 906 rfl) 6 rfl) 100 rfl) 990 rfl) 901 rfl)⟩⟩
        ·have hk138_10 := hc138; try simp only [Bool.or_eq_true, Bool.and_eq_true, Bool.or_eq_false_iff, Bool.and_eq_false_iff, Bool.not_eq_true', Bool.not_eq_false', decide_eq_true_eq, decide_eq_false_iff_not, Bool.not_true, Bool.not_false] at hc138
         refine wp_skip ?_
         refine hK12 _ _ ?_
         refine wp_region_lit ?_
         refine l_at hF rfl rfl rfl (x_move (hF.tmp 7 rfl)) ?_; clear hF; intro a hF
         refine l_at hF rfl rfl rfl (x_add (hF.tmp 28 rfl) rfl (w64 (by omega) (by omega))) ?_; clear hF; intro a hF
         refine l_at hF rfl rfl rfl (x_assign (hF.tmp 29 rfl)) ?_; clear hF; intro a hF
         refine wpList_nil ?_
         exact ⟨_, by omega, ⟨k + 1, X1, (finM m (strOfNums ([99, 108, 105, 101, 110, 116] : List Int)) last (gsact xs (k : Int)).ans), last, op, t, At, ct, okt, rfl, by omega, hX1, (fin_ok hq0_2 _ _ ⟨hbx.ans, hf40⟩), (once_fin (gsact xs (k : Int)).ans hq0_3).2.2 (by first | assumption | simp_all | omega), hq0_4, ((((((hF.bare.add hF 7 rfl).add hF 6 rfl).add hF 5 rfl).add hF 4 rfl).add hF 3 rfl).add hF 0 rfl), hH.sub _ (sub_cons (sub_cons (sub_cons (sub_cons (sub_cons (sub_nil _) 906 rfl) 6 rfl) 100 rfl) 990 rfl) 901 rfl)⟩⟩
       ·have hc132 := hb132; try simp only [Bool.or_eq_true, Bool.and_eq_true, Bool.or_eq_false_iff, Bool.and_eq_false_iff, Bool.not_eq_true', Bool.not_eq_false', decide_eq_true_eq, decide_eq_false_iff_not, Bool.not_true, Bool.not_false] at hc132
        refine l_offg hF ((wanted_of hF rfl rfl rfl rfl).trans (by rw [hb132]; rfl)) rfl rfl ?_; clear hF; intro a hF
        refine l_offg hF ((wanted_of hF rfl rfl rfl rfl).trans (by rw [hb132]; rfl)) rfl rfl ?_; clear hF; intro a hF
        refine l_at hF rfl rfl rfl (x_pickF (hF.tmp 132 rfl) hb132 rfl) ?_; clear hF; intro a hF
        refine l_at hF rfl rfl rfl (x_neb (hF.tmp 130 rfl) (hF.tmp 135 rfl) Tryd.underlying4) ?_; clear hF; intro a hF
        have hbad2 : (!((decide ((finE m (strOfNums ([99, 108, 105, 101, 110, 116] : List Int)) last) = 0)) == false)) = false := by have h_ : decide ((finE m (strOfNums ([99, 108, 105, 101, 110, 116] : List Int)) last) = 0) = (op && decide (0 < last)) := (once_fin (gsact xs (k : Int)).ans hq0_3).1; rw [h_, hc132]; simp
        have hF := FrD.add hF hF 136 (v := .bool false) ((show Sx.get _ 136 = some (Value.bool (!((decide ((finE m (strOfNums ([99, 108, 105, 101, 110, 116] : List Int)) last) = 0)) == false))) from rfl).trans (by rw [hbad2]))
        refine wpList_nil ?_
        refine hK33 _ _ ?_
        refine wp_cond_false (hF.tmp 136 rfl) ?_
        refine wp_skip ?_
        refine hK32 _ _ ?_
        refine wp_seq_k fun khK36 hK36 => ?_
        refine wp_region_lit ?_
        refine l_at hF rfl rfl rfl (x_move (hF.tmp 16 rfl)) ?_; clear hF; intro a hF
        refine l_at hF rfl rfl rfl (x_eql (hF.tmp 137 rfl) rfl) ?_; clear hF; intro a hF
        refine wpList_nil ?_
        refine hK36 _ _ ?_
        refine wp_cond_split (hF.tmp 138 rfl) (fun hc138 => ?_) (fun hc138 => ?_)
        ·have hk138_11 := hc138; try simp only [Bool.or_eq_true, Bool.and_eq_true, Bool.or_eq_false_iff, Bool.and_eq_false_iff, Bool.not_eq_true', Bool.not_eq_false', decide_eq_true_eq, decide_eq_false_iff_not, Bool.not_true, Bool.not_false] at hc138
         refine wp_seq_k fun khK37 hK37 => ?_
         refine wp_region_lit ?_
         refine l_at hF rfl rfl rfl (x_assign rfl) ?_; clear hF; intro a hF
         refine wpList_nil ?_
         refine hK37 _ _ ?_
         refine wp_region_lit ?_
         refine l_at hF rfl rfl rfl (x_faddr Tryd.underlying64 rfl ty62 (by decide) (hF.tmp 8 rfl) rfl) ?_; clear hF; intro a hF
         refine l_at hF rfl rfl rfl (x_loadn (cs := #[.int .i64 (gsact xs (k : Int)).ans.outcome, .int .i64 (gsact xs (k : Int)).ans.err, .slice fA1_1 (gsact xs (k : Int)).ans.results.length fc1_1]) ty62 (hF.tmp 139 rfl) rfl (blk_sub (hH.at 8 rfl) 4 3 rfl)) ?_; clear hF; intro a hF
         refine wpList_plain rfl fun K hK => ?_
         refine w_storeA 6 hH ty62 rfl (hF.tmp 6 rfl) (hF.tmp 140 rfl) rfl (by simp [Value.cells, Value.oneCell']) rfl ?_
         clear hH; intro w hH
         refine hK _ _ ?_; clear hK K
         have hH := hH.subrd 1006 rfl 906 (hH.rd 1006 rfl) (fun _ h => h)
         refine wpList_nil ?_
         refine hK12 _ _ ?_
         refine wp_region_lit ?_
         refine l_at hF rfl rfl rfl (x_move (hF.tmp 7 rfl)) ?_; clear hF; intro a hF
         refine l_at hF rfl rfl rfl (x_add (hF.tmp 28 rfl) rfl (w64 (by omega) (by omega))) ?_; clear hF; intro a hF
         refine l_at hF rfl rfl rfl (x_assign (hF.tmp 29 rfl)) ?_; clear hF; intro a hF
         refine wpList_nil ?_
         exact ⟨_, by omega, ⟨k + 1, X1, (finM m (strOfNums ([99, 108, 105, 101, 110, 116] : List Int)) last (gsact xs (k : Int)).ans), last, false, (gsact xs (k : Int)).ans, (fA1_1), fc1_1, (fun k => k < w0.heap.size), rfl, by omega, hX1, (fin_ok hq0_2 _ _ ⟨hbx.ans, hf40⟩), (once_fin (gsact xs (k : Int)).ans hq0_3).2.1 (by first | assumption | simp_all | omega), hbx.ans, ((((((hF.bare.add hF 7 rfl).add hF 6 rfl).add hF 5 rfl).add hF 4 rfl).add hF 3 rfl).add hF 0 rfl), hH.sub _ (sub_cons (sub_cons (sub_cons (sub_cons (sub_cons (sub_nil _) 906 rfl) 6 rfl) 100 rfl) 990 rfl) 901 rfl)⟩⟩
        ·have hk138_12 := hc138; try simp only [Bool.or_eq_true, Bool.and_eq_true, Bool.or_eq_false_iff, Bool.and_eq_false_iff, Bool.not_eq_true', Bool.not_eq_false', decide_eq_true_eq, decide_eq_false_iff_not, Bool.not_true, Bool.not_false] at hc138
         refine wp_skip ?_
         refine hK12 _ _ ?_
         refine wp_region_lit ?_
         refine l_at hF rfl rfl rfl (x_move (hF.tmp 7 rfl)) ?_; clear hF; intro a hF
         refine l_at hF rfl rfl rfl (x_add (hF.tmp 28 rfl) rfl (w64 (by omega) (by omega))) ?_; clear hF; intro a hF
         refine l_at hF rfl rfl rfl (x_assign (hF.tmp 29 rfl)) ?_; clear hF; intro a hF
         refine wpList_nil ?_
         exact ⟨_, by omega, ⟨k + 1, X1, (finM m (strOfNums ([99, 108, 105, 101, 110, 116] : List Int)) last (gsact xs (k : Int)).ans), last, op, t, At, ct, okt, rfl, by omega, hX1, (fin_ok hq0_2 _ _ ⟨hbx.ans, hf40⟩), (once_fin (gsact xs (k : Int)).ans hq0_3).2.2 (by first | assumption | simp_all | omega), hq0_4, ((((((hF.bare.add hF 7 rfl).add hF 6 rfl).add hF 5 rfl).add hF 4 rfl).add hF 3 rfl).add hF 0 rfl), hH.sub _ (sub_cons (sub_cons (sub_cons (sub_cons (sub_cons (sub_nil _) 906 rfl) 6 rfl) 100 rfl) 990 rfl) 901 rfl)⟩⟩
      ·have hk121_13 := hc121; try simp only [Bool.or_eq_true, Bool.and_eq_true, Bool.or_eq_false_iff, Bool.and_eq_false_iff, Bool.not_eq_true', Bool.not_eq_false', decide_eq_true_eq, decide_eq_false_iff_not, Bool.not_true, Bool.not_false] at hc121
       refine wp_region_lit ?_
       refine l_at hF rfl rfl rfl (x_eql (hF.tmp 44 rfl) rfl) ?_; clear hF; intro a hF
       refine l_at hF rfl rfl rfl (x_assign (hF.tmp 123 rfl)) ?_; clear hF; intro a hF
       refine wpList_nil ?_
       refine hK29 _ _ ?_
       refine wp_cond_split (hF.tmp 121 rfl) (fun hc121 => ?_) (fun hc121 => ?_)
       ·have hk121_14 := hc121; try simp only [Bool.or_eq_true, Bool.and_eq_true, Bool.or_eq_false_iff, Bool.and_eq_false_iff, Bool.not_eq_true', Bool.not_eq_false', decide_eq_true_eq, decide_eq_false_iff_not, Bool.not_true, Bool.not_false] at hc121
        refine wp_seq_k fun khK38 hK38 => ?_
        refine wp_region_lit ?_
        refine l_at hF rfl rfl rfl (x_move (hF.tmp 3 rfl)) ?_; clear hF; intro a hF
        refine l_at hF rfl rfl rfl (x_move (hF.tmp 4 rfl)) ?_; clear hF; intro a hF
        refine l_at hF rfl rfl rfl (x_faddr Tryd.underlying64 rfl ty62 (by decide) (hF.tmp 8 rfl) rfl) ?_; clear hF; intro a hF
        refine l_at hF rfl rfl rfl (x_loadn (cs := #[.int .i64 (gsact xs (k : Int)).ans.outcome, .int .i64 (gsact xs (k : Int)).ans.err, .slice fA1_1 (gsact xs (k : Int)).ans.results.length fc1_1]) ty62 (hF.tmp 126 rfl) rfl (blk_sub (hH.at 8 rfl) 4 3 rfl)) ?_; clear hF; intro a hF
        refine wpList_plain rfl fun K hK => ?_
        refine w_call hF (x_enter Tryd.func30 (by kernel_rfl) rfl (by simp only [List.map_toArray, List.map_cons, List.map_nil, hF.tmp 124 rfl, hF.tmp 125 rfl, hF.tmp 127 rfl] <;> rfl)) (finish_calls (y := (gsact xs (k : Int)).ans) _ hq0_1 (hH.okX 100 rfl) hq0_2 (strOfNums ([99, 108, 105, 101, 110, 116] : List Int)) last ((hH.rd 1006 rfl)) ⟨hbx.ans, hf40⟩ (fun k h => hH.inb 1006 _ rfl k (.inr h)) (fun k h hx => hH.sep 100 1006 _ _ (by decide) rfl rfl k hx (.inr h))) rfl rfl ?_
        rintro _ w ⟨X1, rfl, hX1, hg_⟩; refine ⟨_, rfl, ?_⟩; clear hF; intro a hF; have hH := hH.grew 100 rfl hg_ (fun k hk => hk.elim)
        refine hK _ _ ?_; clear hK K
        refine l_at hF rfl rfl rfl (x_assign (hF.tmp 128 rfl)) ?_; clear hF; intro a hF
        refine wpList_nil ?_
        refine hK38 _ _ ?_
        refine wp_seq_k fun khK39 hK39 => ?_
        refine wp_seq_k fun khK40 hK40 => ?_
        refine wp_region_lit ?_
        refine l_at hF rfl rfl rfl (x_move (hF.tmp 16 rfl)) ?_; clear hF; intro a hF
        refine l_at hF rfl rfl rfl (x_eql (hF.tmp 129 rfl) rfl) ?_; clear hF; intro a hF
        refine l_at hF rfl rfl rfl (x_move (hF.tmp 5 rfl)) ?_; clear hF; intro a hF
        refine l_at hF rfl rfl rfl (x_move (hF.tmp 131 rfl)) ?_; clear hF; intro a hF
        refine split_bool hF 132 rfl (fun hb132 => ?_) (fun hb132 => ?_)
        ·have hc132 := hb132; try simp only [Bool.or_eq_true, Bool.and_eq_true, Bool.or_eq_false_iff, Bool.and_eq_false_iff, Bool.not_eq_true', Bool.not_eq_false', decide_eq_true_eq, decide_eq_false_iff_not, Bool.not_true, Bool.not_false] at hc132
         refine l_atg hF ((wanted_of hF rfl rfl rfl rfl).trans (by rw [hb132]; rfl)) rfl rfl (x_move (hF.tmp 4 rfl)) ?_; clear hF; intro a hF
         refine l_atg hF ((wanted_of hF rfl rfl rfl rfl).trans (by rw [hb132]; rfl)) rfl rfl (x_gtr (hF.tmp 133 rfl) rfl) ?_; clear hF; intro a hF
         refine l_at hF rfl rfl rfl (x_pickT (hF.tmp 132 rfl) hb132 (hF.tmp 134 rfl)) ?_; clear hF; intro a hF
         refine l_at hF rfl rfl rfl (x_neb (hF.tmp 130 rfl) (hF.tmp 135 rfl) Tryd.underlying4) ?_; clear hF; intro a hF
         have hbad2 : (!((decide ((finE m (strOfNums ([99, 108, 105, 101, 110, 116] : List Int)) last) = 0)) == (decide (0 < last)))) = false := by have h_ : decide ((finE m (strOfNums ([99, 108, 105, 101, 110, 116] : List Int)) last) = 0) = (op && decide (0 < last)) := (once_fin (gsact xs (k : Int)).ans hq0_3).1; rw [h_, hc132]; simp
         have hF := FrD.add hF hF 136 (v := .bool false) ((show Sx.get _ 136 = some (Value.bool (!((decide ((finE m (strOfNums ([99, 108, 105, 101, 110, 116] : List Int)) last) = 0)) == (decide (0 < last))))) from rfl).trans (by rw [hbad2]))
         refine wpList_nil ?_
         refine hK40 _ _ ?_
         refine wp_cond_false (hF.tmp 136 rfl) ?_
         refine wp_skip ?_
         refine hK39 _ _ ?_
         refine wp_seq_k fun khK41 hK41 => ?_
         refine wp_region_lit ?_
         refine l_at hF rfl rfl rfl (x_move (hF.tmp 16 rfl)) ?_; clear hF; intro a hF
         refine l_at hF rfl rfl rfl (x_eql (hF.tmp 137 rfl) rfl) ?_; clear hF; intro a hF
         refine wpList_nil ?_
         refine hK41 _ _ ?_
         refine wp_cond_split (hF.tmp 138 rfl) (fun hc138 => ?_) (fun hc138 => ?_)
         ·have hk138_15 := hc138; try simp only [Bool.or_eq_true, Bool.and_eq_true, Bool.or_eq_false_iff, Bool.and_eq_false_iff, Bool.not_eq_true', Bool.not_eq_false', decide_eq_true_eq, decide_eq_false_iff_not, Bool.not_true, Bool.not_false] at hc138
          refine wp_seq_k fun khK42 hK42 => ?_
          refine wp_region_lit ?_
          refine l_at hF rfl rfl rfl (x_assign rfl) ?_; clear hF; intro a hF
          refine wpList_nil ?_
          refine hK42 _ _ ?_
          refine wp_region_lit ?_
          refine l_at hF rfl rfl rfl (x_faddr Tryd.underlying64 rfl ty62 (by decide) (hF.tmp 8 rfl) rfl) ?_; clear hF; intro a hF
          refine l_at hF rfl rfl rfl (x_loadn (cs := #[.int .i64 (gsact xs (k : Int)).ans.outcome, .int .i64 (gsact xs (k : Int)).ans.err, .slice fA1_1 (gsact xs (k : Int)).ans.results.length fc1_1]) ty62 (hF.tmp 139 rfl) rfl (blk_sub (hH.at 8 rfl) 4 3 rfl)) ?_; clear hF; intro a hF
          refine wpList_plain rfl fun K hK => ?_
          refine w_storeA 6 hH ty62 rfl (hF.tmp 6 rfl) (hF.tmp 140 rfl) rfl (by simp [Value.cells, Value.oneCell']) rfl ?_
          clear hH; intro w hH
          refine hK _ _ ?_; clear hK K
          have hH := hH.subrd 1006 rfl 906 (hH.rd 1006 rfl) (fun _ h => h)
          refine wpList_nil ?_
          refine hK12 _ _ ?_
          refine wp_region_lit ?_
          refine l_at hF rfl rfl rfl (x_move (hF.tmp 7 rfl)) ?_; clear hF; intro a hF
          refine l_at hF rfl rfl rfl (x_add (hF.tmp 28 rfl) rfl (w64 (by omega) (by omega))) ?_; clear hF; intro a hF
          refine l_at hF rfl rfl rfl (x_assign (hF.tmp 29 rfl)) ?_; clear hF; intro a hF
          refine wpList_nil ?_
          exact ⟨_, by omega, ⟨k + 1, X1, (finM m (strOfNums ([99, 108, 105, 101, 110, 116] : List Int)) last (gsact xs (k : Int)).ans), last, false, (gsact xs (k : Int)).ans, (fA1_1), fc1_1, (fun k => k < w0.heap.size), rfl, by omega, hX1, (fin_ok hq0_2 _ _ ⟨hbx.ans, hf40⟩), (once_fin (gsact xs (k : Int)).ans hq0_3).2.1 (by first | assumption | simp_all | omega), hbx.ans, ((((((hF.bare.add hF 7 rfl).add hF 6 rfl).add hF 5 rfl).add hF 4 rfl).add hF 3 rfl).add hF 0 rfl), hH.sub _ (sub_cons (sub_cons (sub_cons (sub_cons (sub_cons (sub_nil _) 906 rfl) 6 rfl) 100 rfl) 990 rfl) 901 rfl)⟩⟩
         ·have hk138_16 := hc138; try simp only [Bool.or_eq_true, Bool.and_eq_true, Bool.or_eq_false_iff, Bool.and_eq_false_iff, Bool.not_eq_true', Bool.not_eq_false', decide_eq_true_eq, decide_eq_false_iff_not, Bool.not_true, Bool.not_false] at hc138
          refine wp_skip ?_
          refine hK12 _ _ ?_
          refine wp_region_lit ?_
          refine l_at hF rfl rfl rfl (x_move (hF.tmp 7 rfl)) ?_; clear hF; intro a hF
          refine l_at hF rfl rfl rfl (x_add (hF.tmp 28 rfl) rfl (w64 (by omega) (by omega))) ?_; clear hF; intro a hF
          refine l_at hF rfl rfl rfl (x_assign (hF.tmp 29 rfl)) ?_; clear hF; intro a hF
          refine wpList_nil ?_
          exact ⟨_, by omega, ⟨k + 1, X1, (finM m (strOfNums ([99, 108, 105, 101, 110, 116] : List Int)) last (gsact xs (k : Int)).ans), last, op, t, At, ct, okt, rfl, by omega, hX1, (fin_ok hq0_2 _ _ ⟨hbx.ans, hf40⟩), (once_fin (gsact xs (k : Int)).ans hq0_3).2.2 (by first | assumption | simp_all | omega), hq0_4, ((((((hF.bare.add hF 7 rfl).add hF 6 rfl).add hF 5 rfl).add hF 4 rfl).add hF 3 rfl).add hF 0 rfl), hH.sub _ (sub_cons (sub_cons (sub_cons (sub_cons (sub_cons (sub_nil _) 906 rfl) 6 rfl) 100 rfl) 990 rfl) 901 rfl)⟩⟩
        ·have hc132 := hb132; try simp only [Bool.or_eq_true, Bool.and_eq_true, Bool.or_eq_false_iff, Bool.and_eq_false_iff, Bool.not_eq_true', Bool.not_eq_false', decide_eq_true_eq, decide_eq_false_iff_not, Bool.not_true, Bool.not_false] at hc132
         refine l_offg hF ((wanted_of hF rfl rfl rfl rfl).trans (by rw [hb132]; rfl)) rfl rfl ?_; clear hF; intro a hF
         refine l_offg hF ((wanted_of hF rfl rfl rfl rfl).trans (by rw [hb132]; rfl)) rfl rfl ?_; clear hF; intro a hF
         refine l_at hF rfl rfl rfl (x_pickF (hF.tmp 132 rfl) hb132 rfl) ?_; clear hF; intro a hF
         refine l_at hF rfl rfl rfl (x_neb (hF.tmp 130 rfl) (hF.tmp 135 rfl) Tryd.underlying4) ?_; clear hF; intro a hF
         have hbad2 : (!((decide ((finE m (strOfNums ([99, 108, 105, 101, 110, 116] : List Int)) last) = 0)) == false)) = false := by have h_ : decide ((finE m (strOfNums ([99, 108, 105, 101, 110, 116] : List Int)) last) = 0) = (op && decide (0 < last)) := (once_fin (gsact xs (k : Int)).ans hq0_3).1; rw [h_, hc132]; simp
         have hF := FrD.add hF hF 136 (v := .bool false) ((show Sx.get _ 136 = some (Value.bool (!((decide ((finE m (strOfNums ([99, 108, 105, 101, 110, 116] : List Int)) last) = 0)) == false))) from rfl).trans (by rw [hbad2]))
         refine wpList_nil ?_
         refine hK40 _ _ ?_
         refine wp_cond_false (hF.tmp 136 rfl) ?_
         refine wp_skip ?_
         refine hK39 _ _ ?_
         refine wp_seq_k fun khK43 hK43 => ?_
         refine wp_region_lit ?_
         refine l_at hF rfl rfl rfl (x_move (hF.tmp 16 rfl)) ?_; clear hF; intro a hF
         refine l_at hF rfl rfl rfl (x_eql (hF.tmp 137 rfl) rfl) ?_; clear hF; intro a hF
         refine wpList_nil ?_
         refine hK43 _ _ ?_
         refine wp_cond_split (hF.tmp 138 rfl) (fun hc138 => ?_) (fun hc138 => ?_)
         ·have hk138_17 := hc138; try simp only [Bool.or_eq_true, Bool.and_eq_true, Bool.or_eq_false_iff, Bool.and_eq_false_iff, Bool.not_eq_true', Bool.not_eq_false', decide_eq_true_eq, decide_eq_false_iff_not, Bool.not_true, Bool.not_false] at hc138
          refine wp_seq_k fun khK44 hK44 => ?_
          refine wp_region_lit ?_
          refine l_at hF rfl rfl rfl (x_assign rfl) ?_; clear hF; intro a hF
          refine wpList_nil ?_
          refine hK44 _ _ ?_
          refine wp_region_lit ?_
          refine l_at hF rfl rfl rfl (x_faddr Tryd.underlying64 rfl ty62 (by decide) (hF.tmp 8 rfl) rfl) ?_; clear hF; intro a hF
          refine l_at hF rfl rfl rfl (x_loadn (cs := #[.int .i64 (gsact xs (k : Int)).ans.outcome, .int .i64 (gsact xs (k : Int)).ans.err, .slice fA1_1 (gsact xs (k : Int)).ans.results.length fc1_1]) ty62 (hF.tmp 139 rfl) rfl (blk_sub (hH.at 8 rfl) 4 3 rfl)) ?_; clear hF; intro a hF
          refine wpList_plain rfl fun K hK => ?_
          refine w_storeA 6 hH ty62 rfl (hF.tmp 6 rfl) (hF.tmp 140 rfl) rfl (by simp [Value.cells, Value.oneCell']) rfl ?_
          clear hH; intro w hH
          refine hK _ _ ?_; clear hK K
          have hH := hH.subrd 1006 rfl 906 (hH.rd 1006 rfl) (fun _ h => h)
          refine wpList_nil ?_
          refine hK12 _ _ ?_
          refine wp_region_lit ?_
          refine l_at hF rfl rfl rfl (x_move (hF.tmp 7 rfl)) ?_; clear hF; intro a hF
          refine l_at hF rfl rfl rfl (x_add (hF.tmp 28 rfl) rfl (w64 (by omega) (by omega))) ?_; clear hF; intro a hF
          refine l_at hF rfl rfl rfl (x_assign (hF.tmp 29 rfl)) ?_; clear hF; intro a hF
          refine wpList_nil ?_
          exact ⟨_, by omega, ⟨k + 1, X1, (finM m (strOfNums ([99, 108, 105, 101, 110, 116] : List Int)) last (gsact xs (k : Int)).ans), last, false, (gsact xs (k : Int)).ans, (fA1_1), fc1_1, (fun k => k < w0.heap.size), rfl, by omega, hX1, (fin_ok hq0_2 _ _ ⟨hbx.ans, hf40⟩), (once_fin (gsact xs (k : Int)).ans hq0_3).2.1 (by first | assumption | simp_all | omega), hbx.ans, ((((((hF.bare.add hF 7 rfl).add hF 6 rfl).add hF 5 rfl).add hF 4 rfl).add hF 3 rfl).add hF 0 rfl), hH.sub _ (sub_cons (sub_cons (sub_cons (sub_cons (sub_cons (sub_nil _) 906 rfl) 6 rfl) 100 rfl) 990 rfl) 901 rfl)⟩⟩
         ·have hk138_18 := hc138; try simp only [Bool.or_eq_true, Bool.and_eq_true, Bool.or_eq_false_iff, Bool.and_eq_false_iff, Bool.not_eq_true', Bool.not_eq_false', decide_eq_true_eq, decide_eq_false_iff_not, Bool.not_true, Bool.not_false] at hc138
          refine wp_skip ?_
          refine hK12 _ _ ?_
          refine wp_region_lit ?_
          refine l_at hF rfl rfl rfl (x_move (hF.tmp 7 rfl)) ?_; clear hF; intro a hF
          refine l_at hF rfl rfl rfl (x_add (hF.tmp 28 rfl) rfl (w64 (by omega) (by omega))) ?_; clear hF; intro a hF
          refine l_at hF rfl rfl rfl (x_assign (hF.tmp 29 rfl)) ?_; clear hF; intro a hF
          refine wpList_nil ?_
          exact ⟨_, by omega, ⟨k + 1, X1, (finM m (strOfNums ([99, 108, 105, 101, 110, 116] : List Int)) last (gsact xs (k : Int)).ans), last, op, t, At, ct, okt, rfl, by omega, hX1, (fin_ok hq0_2 _ _ ⟨hbx.ans, hf40⟩), (once_fin (gsact xs (k : Int)).ans hq0_3).2.2 (by first | assumption | simp_all | omega), hq0_4, ((((((hF.bare.add hF 7 rfl).add hF 6 rfl).add hF 5 rfl).add hF 4 rfl).add hF 3 rfl).add hF 0 rfl), hH.sub _ (sub_cons (sub_cons (sub_cons (sub_cons (sub_cons (sub_nil _) 906 rfl) 6 rfl) 100 rfl) 990 rfl) 901 rfl)⟩⟩
       ·have hk121_19 := hc121; try simp only [Bool.or_eq_true, Bool.and_eq_true, Bool.or_eq_false_iff, Bool.and_eq_false_iff, Bool.not_eq_true', Bool.not_eq_false', decide_eq_true_eq, decide_eq_false_iff_not, Bool.not_true, Bool.not_false] at hc121
        refine wp_skip ?_
        refine hK12 _ _ ?_
        refine wp_region_lit ?_
        refine l_at hF rfl rfl rfl (x_move (hF.tmp 7 rfl)) ?_; clear hF; intro a hF
        refine l_at hF rfl rfl rfl (x_add (hF.tmp 28 rfl) rfl (w64 (by omega) (by omega))) ?_; clear hF; intro a hF
        refine l_at hF rfl rfl rfl (x_assign (hF.tmp 29 rfl)) ?_; clear hF; intro a hF
        refine wpList_nil ?_
        exact ⟨_, by omega, ⟨k + 1, X, m, last, op, t, At, ct, okt, rfl, by omega, hq0_1, hq0_2, hq0_3, hq0_4, ((((((hF.bare.add hF 7 rfl).add hF 6 rfl).add hF 5 rfl).add hF 4 rfl).add hF 3 rfl).add hF 0 rfl), hH.sub _ (sub_cons (sub_cons (sub_cons (sub_cons (sub_cons (sub_nil _) 906 rfl) 6 rfl) 100 rfl) 990 rfl) 901 rfl)⟩⟩
   ·have hk27_20 := hc27; try simp only [Bool.or_eq_true, Bool.and_eq_true, Bool.or_eq_false_iff, Bool.and_eq_false_iff, Bool.not_eq_true', Bool.not_eq_false', decide_eq_true_eq, decide_eq_false_iff_not, Bool.not_true, Bool.not_false] at hc27
    refine wp_exit ?_
    refine hK8 _ _ ?_
    refine wp_seq_k fun khK45 hK45 => ?_
    refine wp_region_lit ?_
    refine wpList_plain rfl fun K hK => ?_
    refine w_call hF (x_enter Tryd.func19 (by kernel_rfl) rfl (by simp only [List.map_toArray, List.map_cons, List.map_nil] <;> rfl)) (qalive_calls _ (hH.holds 990 _ rfl)) rfl rfl ?_
    rintro _ w ⟨rfl, hm_⟩; refine ⟨_, rfl, ?_⟩; clear hF; intro a hF; have hH := hH.same hm_
    refine hK _ _ ?_; clear hK K
    refine l_at hF rfl rfl rfl (x_assign (hF.tmp 141 rfl)) ?_; clear hF; intro a hF
    refine wpList_nil ?_
    refine hK45 _ _ ?_
    refine wp_ret ?_
    try simp only [Exit.then, Exit.inBlock]
    exact fin_ret hF (res1 (v := .bool true) hF rfl rfl) ⟨rfl, hH.mods⟩
  ·have hc24 := hb24; try simp only [Bool.or_eq_true, Bool.and_eq_true, Bool.or_eq_false_iff, Bool.and_eq_false_iff, Bool.not_eq_true', Bool.not_eq_false', decide_eq_true_eq, decide_eq_false_iff_not, Bool.not_true, Bool.not_false] at hc24
   refine l_offg hF ((wanted_of hF rfl rfl rfl rfl).trans (by rw [hb24]; rfl)) rfl rfl ?_; clear hF; intro a hF
   refine l_offg hF ((wanted_of hF rfl rfl rfl rfl).trans (by rw [hb24]; rfl)) rfl rfl ?_; clear hF; intro a hF
   refine l_at hF rfl rfl rfl (x_pickF (hF.tmp 24 rfl) hb24 rfl) ?_; clear hF; intro a hF
   refine wpList_nil ?_
   refine hK11 _ _ ?_
   refine wp_cond_false (hF.tmp 27 rfl) ?_
   refine wp_exit ?_
   refine hK8 _ _ ?_
   refine wp_seq_k fun khK46 hK46 => ?_
   refine wp_region_lit ?_
   refine wpList_plain rfl fun K hK => ?_
   refine w_call hF (x_enter Tryd.func19 (by kernel_rfl) rfl (by simp only [List.map_toArray, List.map_cons, List.map_nil] <;> rfl)) (qalive_calls _ (hH.holds 990 _ rfl)) rfl rfl ?_
   rintro _ w ⟨rfl, hm_⟩; refine ⟨_, rfl, ?_⟩; clear hF; intro a hF; have hH := hH.same hm_
   refine hK _ _ ?_; clear hK K
   refine l_at hF rfl rfl rfl (x_assign (hF.tmp 141 rfl)) ?_; clear hF; intro a hF
   refine wpList_nil ?_
   refine hK46 _ _ ?_
   refine wp_ret ?_
   try simp only [Exit.then, Exit.inBlock]
   exact fin_ret hF (res1 (v := .bool true) hF rfl rfl) ⟨rfl, hH.mods⟩
end Go.Proofs.YtiiklnghnifmjaaDoor.Act
