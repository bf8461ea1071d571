/- Any script, walked. -/
import Derived.Test.YtiiklnghnifmjaaDoorKnoAZu
import Derived.Test.YtiiklnghnifmjaaDoorBunZu
set_option linter.unusedVariables false
set_option linter.unusedSimpArgs false
namespace Go.Proofs.YtiiklnghnifmjaaDoor.Act
open Go.RowKit Go.Proofs.YtiiklnghnifmjaaDoor.Sx Go.Proofs.YtiiklnghnifmjaaDoor.Cod Go.Proofs.YtiiklnghnifmjaaDoor.Num
theorem ty64 : TyI Tryd.prog 64 (.agg #[.int .i64 0, .string (strOfNums []), .int .i64 0, .slice none 0 0, .int .i64 0, .int .i64 0, .slice none 0 0]) 7 96 true := ⟨by kernel_rfl, _, Tryd.underlying64, rfl⟩
set_option maxRecDepth 100000 in
set_option maxHeartbeats 1000000 in
theorem fitsY_calls (w0 : World) {x : SActD} {okx0 : Nat → Prop} {Ax0 : Option Addr} {cx0 : Nat} (hrx0 : Rd OpdE w0 okx0 Ax0 x.req.ops cx0) {okx1 : Nat → Prop} {Ax1 : Option Addr} {cx1 : Nat} (hrx1 : Rd ResE w0 okx1 Ax1 x.ans.results cx1) : Calls Tryd.prog 26 #[.agg #[.int .i64 x.kind, .string (strOfNums x.req.client), .int .i64 x.req.num, .slice Ax0 x.req.ops.length cx0, .int .i64 x.ans.outcome, .int .i64 x.ans.err, .slice Ax1 x.ans.results.length cx1]] w0 fun e w' => ∃ b : Bool, e = .returned (.bool b) ∧ (b = true → x.ans.results.length ≤ 40) ∧ Mods (fun _ => False) w0 w' := by
 refine calls_of_wp Tryd.func26 rfl ?_
 have hF := Fr.enter #[.agg #[.int .i64 x.kind, .string (strOfNums x.req.client), .int .i64 x.req.num, .slice Ax0 x.req.ops.length cx0, .int .i64 x.ans.outcome, .int .i64 x.ans.err, .slice Ax1 x.ans.results.length cx1]] 15 (slotsOf [.agg #[.int .i64 x.kind, .string (strOfNums x.req.client), .int .i64 x.req.num, .slice Ax0 x.req.ops.length cx0, .int .i64 x.ans.outcome, .int .i64 x.ans.err, .slice Ax1 x.ans.results.length cx1]] 0) (Nat.le_of_ble_eq_true rfl) (fun i v h => by have h2 := (get_slotsOf _ 0 i v h).2; simpa only [List.getElem?_toArray, Nat.sub_zero] using h2)
 have hH := Hp.nil (fun _ => False) w0
 rw [Tryd.ntmps26]
 revert hF; generalize (⟨(#[.agg #[.int .i64 x.kind, .string (strOfNums x.req.client), .int .i64 x.req.num, .slice Ax0 x.req.ops.length cx0, .int .i64 x.ans.outcome, .int .i64 x.ans.err, .slice Ax1 x.ans.results.length cx1]] : Array Value) ++ Array.replicate (15 - (#[.agg #[.int .i64 x.kind, .string (strOfNums x.req.client), .int .i64 x.req.num, .slice Ax0 x.req.ops.length cx0, .int .i64 x.ans.outcome, .int .i64 x.ans.err, .slice Ax1 x.ans.results.length cx1]] : Array Value).size) undef, []⟩ : Act) = a; intro hF
 have hH := hH.arg 900 hrx0.all (fun _ h => ⟨h, fun h => h⟩)
 have hlex0 := hrx0.le; unfold maxLen at hlex0
 have hH := hH.arg 901 hrx1.all (fun _ h => ⟨h, fun h => h⟩)
 have hlex1 := hrx1.le; unfold maxLen at hlex1
 refine wp_seq_k fun khK1 hK1 => ?_
 refine wp_region_lit ?_
 refine wpList_plain rfl fun K hK => ?_
 refine w_box 1 hF hH rfl (hF.tmp 0 rfl) ?_
 clear hF hH; intro a w b1 hF hH
 refine hK _ _ ?_; clear hK K
 refine l_at hF rfl rfl rfl (x_assign rfl) ?_; clear hF; intro a hF
 refine wpList_nil ?_
 refine hK1 _ _ ?_
 refine wp_seq_k fun khK2 hK2 => ?_
 refine wp_region_lit ?_
 refine l_at hF rfl rfl rfl (x_faddr Tryd.underlying64 rfl ty45 (by decide) (hF.tmp 1 rfl) rfl) ?_; clear hF; intro a hF
 refine l_at hF rfl rfl rfl (x_loadn (cs := #[.string (strOfNums x.req.client), .int .i64 x.req.num, .slice Ax0 x.req.ops.length cx0]) ty45 (hF.tmp 4 rfl) rfl (blk_sub (hH.at 1 rfl) 1 3 rfl)) ?_; clear hF; intro a hF
 refine wpList_plain rfl fun K hK => ?_
 refine w_call hF (x_enter Tryd.func18 (by kernel_rfl) rfl (by simp only [List.map_toArray, List.map_cons, List.map_nil, hF.tmp 5 rfl] <;> rfl)) (fitsQ_calls (r := x.req) _ ((hH.rd 900 rfl))) rfl rfl ?_
 rintro _ w ⟨bq_, rfl, hm_⟩; refine ⟨_, rfl, ?_⟩; clear hF; intro a hF; have hH := hH.same hm_
 refine hK _ _ ?_; clear hK K
 refine l_at hF rfl rfl rfl (x_assign (hF.tmp 6 rfl)) ?_; clear hF; intro a hF
 refine wpList_nil ?_
 refine hK2 _ _ ?_
 refine wp_seq_k fun khK3 hK3 => ?_
 refine wp_region_lit ?_
 refine l_at hF rfl rfl rfl (x_move (hF.tmp 3 rfl)) ?_; clear hF; intro a hF
 refine l_at hF rfl rfl rfl (x_move (hF.tmp 7 rfl)) ?_; clear hF; intro a hF
 refine split_bool hF 8 rfl (fun hb8 => ?_) (fun hb8 => ?_)
 ·have hc8 := hb8; try simp only [Bool.or_eq_true, Bool.and_eq_true, Bool.or_eq_false_iff, Bool.and_eq_false_iff, Bool.not_eq_true', Bool.not_eq_false', decide_eq_true_eq, decide_eq_false_iff_not, Bool.not_true, Bool.not_false] at hc8
  refine l_atg hF ((wanted_of hF rfl rfl rfl rfl).trans (by rw [hb8]; rfl)) rfl rfl (x_faddr Tryd.underlying64 rfl ty62 (by decide) (hF.tmp 1 rfl) rfl) ?_; clear hF; intro a hF
  refine l_atg hF ((wanted_of hF rfl rfl rfl rfl).trans (by rw [hb8]; rfl)) rfl rfl (x_faddr Tryd.underlying62 rfl ty60 (by decide) (hF.tmp 9 rfl) rfl) ?_; clear hF; intro a hF
  refine l_atg hF ((wanted_of hF rfl rfl rfl rfl).trans (by rw [hb8]; rfl)) rfl rfl (x_load1 ty60 (hF.tmp 10 rfl) (blk_cell (hH.at 1 rfl) 6 rfl)) ?_; clear hF; intro a hF
  refine l_atg hF ((wanted_of hF rfl rfl rfl rfl).trans (by rw [hb8]; rfl)) rfl rfl (x_len_slice Tryd.underlying60 (hF.tmp 11 rfl)) ?_; clear hF; intro a hF
  refine l_atg hF ((wanted_of hF rfl rfl rfl rfl).trans (by rw [hb8]; rfl)) rfl rfl (x_leq (hF.tmp 12 rfl) rfl) ?_; clear hF; intro a hF
  refine l_at hF rfl rfl rfl (x_pickT (hF.tmp 8 rfl) hb8 (hF.tmp 13 rfl)) ?_; clear hF; intro a hF
  refine l_at hF rfl rfl rfl (x_assign (hF.tmp 14 rfl)) ?_; clear hF; intro a hF
  refine wpList_nil ?_
  refine hK3 _ _ ?_
  refine wp_ret ?_
  try simp only [Exit.then, Exit.inBlock]
  exact fin_ret hF (res1 (v := .bool (decide ((x.ans.results.length : Int) ≤ 40))) hF rfl rfl) ⟨_, rfl, (by intro h_; first | (have h2_ := of_decide_eq_true h_; omega) | (simp at h_)), hH.mods⟩
 ·have hc8 := hb8; try simp only [Bool.or_eq_true, Bool.and_eq_true, Bool.or_eq_false_iff, Bool.and_eq_false_iff, Bool.not_eq_true', Bool.not_eq_false', decide_eq_true_eq, decide_eq_false_iff_not, Bool.not_true, Bool.not_false] at hc8
  refine l_offg hF ((wanted_of hF rfl rfl rfl rfl).trans (by rw [hb8]; rfl)) rfl rfl ?_; clear hF; intro a hF
  refine l_offg hF ((wanted_of hF rfl rfl rfl rfl).trans (by rw [hb8]; rfl)) rfl rfl ?_; clear hF; intro a hF
  refine l_offg hF ((wanted_of hF rfl rfl rfl rfl).trans (by rw [hb8]; rfl)) rfl rfl ?_; clear hF; intro a hF
  refine l_offg hF ((wanted_of hF rfl rfl rfl rfl).trans (by rw [hb8]; rfl)) rfl rfl ?_; clear hF; intro a hF
  refine l_offg hF ((wanted_of hF rfl rfl rfl rfl).trans (by rw [hb8]; rfl)) rfl rfl ?_; clear hF; intro a hF
  refine l_at hF rfl rfl rfl (x_pickF (hF.tmp 8 rfl) hb8 rfl) ?_; clear hF; intro a hF
  refine l_at hF rfl rfl rfl (x_assign (hF.tmp 14 rfl)) ?_; clear hF; intro a hF
  refine wpList_nil ?_
  refine hK3 _ _ ?_
  refine wp_ret ?_
  try simp only [Exit.then, Exit.inBlock]
  exact fin_ret hF (res1 (v := .bool false) hF rfl rfl) ⟨_, rfl, (by intro h_; first | (have h2_ := of_decide_eq_true h_; omega) | (simp at h_)), hH.mods⟩
theorem last_at (w0 : World) {X : Asn} {bt : Nat} {m : TabM} (hX : TabA 122 bt m X) (hok : X.ok w0) (s : ByteArray) {g : KnowD} (hm : getT m s = lastK g) : Calls Tryd.prog 31 #[.pointer (some ⟨bt, 0, none⟩), .string s] w0 fun e w' => e = .returned (.tuple #[.int .i64 g.number, .bool g.finished]) ∧ Mods (fun _ => False) w0 w' := by
 have h_ := last_calls w0 hX hok s
 rw [hm] at h_
 exact h_
theorem last_zero_calls (w0 : World) {X : Asn} {bt : Nat} {m : TabM} (hX : TabA 122 bt m X) (hok : X.ok w0) (s : ByteArray) (hm : getT m s = last0) : Calls Tryd.prog 31 #[.pointer (some ⟨bt, 0, none⟩), .string s] w0 fun e w' => e = .returned (.tuple #[.int .i64 0, .bool false]) ∧ Mods (fun _ => False) w0 w' := by
 have h_ := last_calls w0 hX hok s
 rw [hm] at h_
 exact h_
set_option maxRecDepth 100000 in
set_option maxHeartbeats 1000000 in
theorem sPlays_calls (w0 : World) {pp : Bool} (hL : LibAt pp w0) {ok : Nat → Prop} {A : Option Addr} {xs : List SActD} {c : Nat} (hr : Rd SactE w0 ok A xs c) (hxb : ∀ x ∈ xs, SActB x) : Calls Tryd.prog 8 #[.slice A xs.length c] w0 fun e w' => e = .returned (.bool true) ∧ Mods (fun _ => False) w0 w' := by
 refine calls_of_wp Tryd.func8 rfl ?_
 have hF := Fr.enter #[.slice A xs.length c] 208 (slotsOf [.slice A xs.length c] 0) (Nat.le_of_ble_eq_true rfl) (fun i v h => by have h2 := (get_slotsOf _ 0 i v h).2; simpa only [List.getElem?_toArray, Nat.sub_zero] using h2)
 have hH := Hp.nil (fun _ => False) w0
 rw [Tryd.ntmps8]
 revert hF; generalize (⟨(#[.slice A xs.length c] : Array Value) ++ Array.replicate (208 - (#[.slice A xs.length c] : Array Value).size) undef, []⟩ : Act) = a; intro hF
 have hH := hH.arg 901 hr.all (fun _ h => ⟨h, fun h => h⟩)
 have hle901 := hr.le; unfold maxLen at hle901
 have hH := hH.libN 990 hL
 refine wp_seq_k fun khK1 hK1 => ?_
 refine wp_region_lit ?_
 refine l_at hF rfl rfl rfl (x_assign rfl) ?_; clear hF; intro a hF
 refine wpList_nil ?_
 refine hK1 _ _ ?_
 refine wp_seq_k fun khK2 hK2 => ?_
 refine wp_region_lit ?_
 refine wpList_plain rfl fun K hK => ?_
 refine w_call hF (x_enter Tryd.func25 (by kernel_rfl) rfl (by simp only [List.map_toArray, List.map_cons, List.map_nil] <;> rfl)) (tnew_calls _) rfl rfl ?_
 rintro _ w ⟨bt, X0, rfl, hX0, hxo_, hm_, hxn_, hxr_⟩; refine ⟨_, rfl, ?_⟩; clear hF; intro a hF; have hH := hH.newX 100 hm_ hxo_ hxn_ (fun k hk => (hxr_ k hk).elim)
 refine hK _ _ ?_; clear hK K
 refine l_at hF rfl rfl rfl (x_assign (hF.tmp 26 rfl)) ?_; clear hF; intro a hF
 refine wpList_nil ?_
 refine hK2 _ _ ?_
 refine wp_seq_k fun khK3 hK3 => ?_
 refine wp_region_lit ?_
 refine l_at hF rfl rfl rfl (x_buildS (cells := #[.slice none 0 0]) (places := #[(0, 1)]) Tryd.underlying78 ty78 (by kernel_rfl) Array.map_empty rfl) ?_; clear hF; intro a hF
 refine wpList_plain rfl fun K hK => ?_
 refine w_box 1 hF hH rfl (hF.tmp 27 rfl) ?_
 clear hF hH; intro a w b28 hF hH
 refine hK _ _ ?_; clear hK K
 have hH := Hp.rdnil hH 2 KnowE
 have hH := hH.bundle (L := [(1, .blk b28 (.cells #[.slice none ([] : List KnowD).length 0] 78 (0, 0))), (2, .rd_ KnowE none [] 0 (fun _ => False))]) (N := [(901, .rd_ SactE A xs c (fun k => k < w0.heap.size)), (990, .lib pp), (100, X0)]) 101 (sub_cons (sub_cons (sub_nil _) 2 rfl) 1 rfl) (sub_cons (sub_cons (sub_cons (sub_nil _) 100 rfl) 990 rfl) 901 rfl) (apart_cons rfl (apart_cons rfl (apart_nil _)))
 refine l_at hF rfl rfl rfl (x_assign (hF.tmp 28 rfl)) ?_; clear hF; intro a hF
 refine wpList_nil ?_
 refine hK3 _ _ ?_
 refine wp_seq_k fun khK4 hK4 => ?_
 refine wp_seq_k fun khK5 hK5 => ?_
 refine wp_region_lit ?_
 refine l_at hF rfl rfl rfl (x_move (hF.tmp 3 rfl)) ?_; clear hF; intro a hF
 refine l_at hF rfl rfl rfl (x_ptrnil Tryd.underlying58 (hF.tmp 29 rfl) rfl) ?_; clear hF; intro a hF
 refine wpList_nil ?_
 refine hK5 _ _ ?_
 refine wp_cond_false (hF.tmp 30 rfl) ?_
 refine wp_skip ?_
 refine hK4 _ _ ?_
 refine wp_seq_k fun khK6 hK6 => ?_
 refine wp_seq_k fun khK7 hK7 => ?_
 refine wp_region_lit ?_
 refine l_at hF rfl rfl rfl (x_assign rfl) ?_; clear hF; intro a hF
 refine wpList_nil ?_
 refine hK7 _ _ ?_
 refine wp_block ?_
 refine wp_loop_ghost (fun n_ a w => ∃ k : Nat, ∃ X : Asn, ∃ m : TabM, ∃ Y : Asn, ∃ l : List KnowD, n_ = xs.length - k ∧ (k ≤ xs.length) ∧ (TabA 122 bt m X) ∧ (TabB m) ∧ (KnoA 78 b28 l Y) ∧ (Rel l m) ∧ (l.length ≤ k) ∧ Fr 208 a [(0, .slice A xs.length c), (3, .pointer (some ⟨bt, 0, none⟩)), (4, .pointer (some ⟨b28, 0, none⟩)), (5, .int .i64 (k : Int))] ∧ Hp (fun _ => False) w0 w [(901, .rd_ SactE A xs c (fun k => k < w0.heap.size)), (990, .lib pp), (100, X), (101, Y)]) (xs.length) ?_ ?_
 ·exact ⟨0, X0, [], Asn.all [(1, .blk b28 (.cells #[.slice none ([] : List KnowD).length 0] 78 (0, 0))), (2, .rd_ KnowE none [] 0 (fun _ => False))], [], rfl, by omega, hX0, tab_nil, (⟨none, 0, _, rfl⟩ : KnoA 78 b28 [] _), rel_nil, by simp, ((((hF.bare.add hF 5 rfl).add hF 4 rfl).add hF 3 rfl).add hF 0 rfl), hH.sub _ (sub_cons (sub_cons (sub_cons (sub_cons (sub_nil _) 101 rfl) 100 rfl) 990 rfl) 901 rfl)⟩
 ·rintro _ a w ⟨k, X, m, Y, l, rfl, hq0_0, hq0_1, hq0_2, hq0_3, hq0_4, hq0_5, hF, hH⟩
  refine wp_seq_k fun khK8 hK8 => ?_
  refine wp_seq_k fun khK9 hK9 => ?_
  refine wp_region_lit ?_
  refine l_at hF rfl rfl rfl (x_move (hF.tmp 5 rfl)) ?_; clear hF; intro a hF
  refine l_at hF rfl rfl rfl (x_move (hF.tmp 0 rfl)) ?_; clear hF; intro a hF
  refine l_at hF rfl rfl rfl (x_len_slice Tryd.underlying57 (hF.tmp 32 rfl)) ?_; clear hF; intro a hF
  refine l_at hF rfl rfl rfl (x_lss (hF.tmp 31 rfl) (hF.tmp 33 rfl)) ?_; clear hF; intro a hF
  refine l_at hF rfl rfl rfl (x_move (hF.tmp 34 rfl)) ?_; clear hF; intro a hF
  refine split_bool hF 35 rfl (fun hb35 => ?_) (fun hb35 => ?_)
  ·have hc35 := hb35; try simp only [Bool.or_eq_true, Bool.and_eq_true, Bool.or_eq_false_iff, Bool.and_eq_false_iff, Bool.not_eq_true', Bool.not_eq_false', decide_eq_true_eq, decide_eq_false_iff_not, Bool.not_true, Bool.not_false] at hc35
   refine l_atg hF ((wanted_of hF rfl rfl rfl rfl).trans (by rw [hb35]; rfl)) rfl rfl (x_move (hF.tmp 5 rfl)) ?_; clear hF; intro a hF
   refine l_atg hF ((wanted_of hF rfl rfl rfl rfl).trans (by rw [hb35]; rfl)) rfl rfl (x_lss (hF.tmp 36 rfl) rfl) ?_; clear hF; intro a hF
   refine l_at hF rfl rfl rfl (x_pickT (hF.tmp 35 rfl) hb35 (hF.tmp 37 rfl)) ?_; clear hF; intro a hF
   refine wpList_nil ?_
   refine hK9 _ _ ?_
   refine wp_cond_split (hF.tmp 38 rfl) (fun hc38 => ?_) (fun hc38 => ?_)
   ·have hk38_1 := hc38; try simp only [Bool.or_eq_true, Bool.and_eq_true, Bool.or_eq_false_iff, Bool.and_eq_false_iff, Bool.not_eq_true', Bool.not_eq_false', decide_eq_true_eq, decide_eq_false_iff_not, Bool.not_true, Bool.not_false] at hc38
    refine wp_skip ?_
    refine hK8 _ _ ?_
    refine wp_seq_k fun khK10 hK10 => ?_
    refine wp_block ?_
    refine wp_seq_k fun khK11 hK11 => ?_
    refine wp_region_lit ?_
    refine l_at hF rfl rfl rfl (x_move (hF.tmp 0 rfl)) ?_; clear hF; intro a hF
    refine l_at hF rfl rfl rfl (x_move (hF.tmp 5 rfl)) ?_; clear hF; intro a hF
    refine l_at hF rfl rfl rfl (x_iaddr_A Tryd.underlying57 ty64 ((hH.rd 901 rfl)) (hF.tmp 41 rfl) (hF.tmp 42 rfl) (by omega) (by omega) _) ?_; clear hF; intro a hF
    obtain ⟨fA1_0, fc1_0, fA1_1, fc1_1, hfr1_0, hfr1_1, hf1_0, hf1_1, hf1_2, hf1_3, hf1_4, hf1_5, hf1_6, hfw1⟩ := rd_sact ((hH.rd 901 rfl)) (gsact_some (xs := xs) (i := (k : Int)) (by omega) (by omega))
    have hH := hH.subrd 901 rfl 1003 hfr1_0 (fun _ h => h)
    have hH := hH.subrd 901 rfl 1006 hfr1_1 (fun _ h => h)
    have hH := hH.subcels 901 rfl 1499 hfw1 (Rd.inok ((hH.rd 901 rfl)) (by omega) _)
    have hH := hH.subcel 901 rfl 1500 hf1_0 (Rd.inok ((hH.rd 901 rfl)) (by omega) _)
    have hH := hH.subcel 901 rfl 1501 hf1_1 (Rd.inok ((hH.rd 901 rfl)) (by omega) _)
    have hH := hH.subcel 901 rfl 1502 hf1_2 (Rd.inok ((hH.rd 901 rfl)) (by omega) _)
    have hH := hH.subcel 901 rfl 1503 hf1_3 (Rd.inok ((hH.rd 901 rfl)) (by omega) _)
    have hH := hH.subcel 901 rfl 1504 hf1_4 (Rd.inok ((hH.rd 901 rfl)) (by omega) _)
    have hH := hH.subcel 901 rfl 1505 hf1_5 (Rd.inok ((hH.rd 901 rfl)) (by omega) _)
    have hH := hH.subcel 901 rfl 1506 hf1_6 (Rd.inok ((hH.rd 901 rfl)) (by omega) _)
    have hbx := hxb _ (gsact_mem (xs := xs) (j := k) (by omega))
    refine l_at hF rfl rfl rfl (x_loadn ty64 (hF.tmp 43 rfl) rfl (hH.holds 1499 _ rfl)) ?_; clear hF; intro a hF
    refine wpList_plain rfl fun K hK => ?_
    refine w_alloc 6 hF hH rfl ty64 ?_
    clear hF hH; intro a w b6 hF hH
    refine hK _ _ ?_; clear hK K
    refine wpList_plain rfl fun K hK => ?_
    refine w_storeA 6 hH ty64 rfl (hF.tmp 6 rfl) (hF.tmp 44 rfl) rfl (by simp [Value.cells, Value.oneCell']) rfl ?_
    clear hH; intro w hH
    refine hK _ _ ?_; clear hK K
    refine wpList_nil ?_
    refine hK11 _ _ ?_
    refine wp_seq_k fun khK12 hK12 => ?_
    refine wp_region_lit ?_
    refine l_at hF rfl rfl rfl (x_loadn ty64 (hF.tmp 6 rfl) rfl (blk_whole (hH.at 6 rfl))) ?_; clear hF; intro a hF
    refine wpList_plain rfl fun K hK => ?_
    refine w_call hF (x_enter Tryd.func26 (by kernel_rfl) rfl (by simp only [List.map_toArray, List.map_cons, List.map_nil, hF.tmp 45 rfl] <;> rfl)) (fitsY_calls (x := (gsact xs (k : Int))) _ ((hH.rd 1003 rfl)) ((hH.rd 1006 rfl))) rfl rfl ?_
    rintro _ w ⟨bf_, rfl, hfit, hm_⟩; refine ⟨_, rfl, ?_⟩; clear hF; intro a hF; have hH := hH.same hm_
    refine hK _ _ ?_; clear hK K
    refine l_at hF rfl rfl rfl (x_assign (hF.tmp 46 rfl)) ?_; clear hF; intro a hF
    refine wpList_nil ?_
    refine hK12 _ _ ?_
    refine wp_seq_k fun khK13 hK13 => ?_
    refine wp_seq_k fun khK14 hK14 => ?_
    refine wp_region_lit ?_
    refine l_at hF rfl rfl rfl (x_move (hF.tmp 7 rfl)) ?_; clear hF; intro a hF
    refine l_at hF rfl rfl rfl (x_not (hF.tmp 47 rfl)) ?_; clear hF; intro a hF
    refine wpList_nil ?_
    refine hK14 _ _ ?_
    refine wp_cond_split (hF.tmp 48 rfl) (fun hc48 => ?_) (fun hc48 => ?_)
    ·have hk48_2 := hc48; try simp only [Bool.or_eq_true, Bool.and_eq_true, Bool.or_eq_false_iff, Bool.and_eq_false_iff, Bool.not_eq_true', Bool.not_eq_false', decide_eq_true_eq, decide_eq_false_iff_not, Bool.not_true, Bool.not_false] at hc48
     refine wp_exit ?_
     refine hK10 _ _ ?_
     refine wp_region_lit ?_
     refine l_at hF rfl rfl rfl (x_move (hF.tmp 5 rfl)) ?_; clear hF; intro a hF
     refine l_at hF rfl rfl rfl (x_add (hF.tmp 39 rfl) rfl (w64 (by omega) (by omega))) ?_; clear hF; intro a hF
     refine l_at hF rfl rfl rfl (x_assign (hF.tmp 40 rfl)) ?_; clear hF; intro a hF
     refine wpList_nil ?_
     exact ⟨_, by omega, ⟨k + 1, X, m, Y, l, rfl, by omega, hq0_1, hq0_2, hq0_3, hq0_4, by omega, ((((hF.bare.add hF 5 rfl).add hF 4 rfl).add hF 3 rfl).add hF 0 rfl), hH.sub _ (sub_cons (sub_cons (sub_cons (sub_cons (sub_nil _) 101 rfl) 100 rfl) 990 rfl) 901 rfl)⟩⟩
    ·have hk48_3 := hc48; try simp only [Bool.or_eq_true, Bool.and_eq_true, Bool.or_eq_false_iff, Bool.and_eq_false_iff, Bool.not_eq_true', Bool.not_eq_false', decide_eq_true_eq, decide_eq_false_iff_not, Bool.not_true, Bool.not_false] at hc48
     have hf40 : (gsact xs (k : Int)).ans.results.length ≤ 40 := hfit (by simpa using hc48)
     refine wp_skip ?_
     refine hK13 _ _ ?_
     refine wp_seq_k fun khK15 hK15 => ?_
     refine wp_region_lit ?_
     refine l_at hF rfl rfl rfl (x_assign rfl) ?_; clear hF; intro a hF
     refine wpList_nil ?_
     refine hK15 _ _ ?_
     refine wp_seq_k fun khK16 hK16 => ?_
     refine wp_region_lit ?_
     refine l_at hF rfl rfl rfl (x_move (hF.tmp 3 rfl)) ?_; clear hF; intro a hF
     refine l_at hF rfl rfl rfl (x_faddr Tryd.underlying64 rfl ty45 (by decide) (hF.tmp 6 rfl) rfl) ?_; clear hF; intro a hF
     refine l_at hF rfl rfl rfl (x_faddr Tryd.underlying45 rfl ty9 (by decide) (hF.tmp 51 rfl) rfl) ?_; clear hF; intro a hF
     refine l_at hF rfl rfl rfl (x_load1 ty9 (hF.tmp 52 rfl) (blk_cell (hH.at 6 rfl) 1 rfl)) ?_; clear hF; intro a hF
     refine wpList_plain rfl fun K hK => ?_
     refine w_call hF (x_enter Tryd.func31 (by kernel_rfl) rfl (by simp only [List.map_toArray, List.map_cons, List.map_nil, hF.tmp 50 rfl, hF.tmp 53 rfl] <;> rfl)) (last_calls _ hq0_1 (hH.okX 100 rfl) (strOfNums (gsact xs (k : Int)).req.client)) rfl rfl ?_
     rintro _ w ⟨rfl, hm_⟩; refine ⟨_, rfl, ?_⟩; clear hF; intro a hF; have hH := hH.same hm_
     refine hK _ _ ?_; clear hK K
     refine l_at hF rfl rfl rfl (x_move (hF.tmp 54 rfl)) ?_; clear hF; intro a hF
     refine l_at hF rfl rfl rfl (x_extract (hF.tmp 49 rfl) rfl) ?_; clear hF; intro a hF
     refine l_at hF rfl rfl rfl (x_extract (hF.tmp 49 rfl) rfl) ?_; clear hF; intro a hF
     refine l_at hF rfl rfl rfl (x_assign (hF.tmp 55 rfl)) ?_; clear hF; intro a hF
     refine l_at hF rfl rfl rfl (x_assign (hF.tmp 56 rfl)) ?_; clear hF; intro a hF
     refine wpList_nil ?_
     refine hK16 _ _ ?_
     refine wp_seq_k fun khK17 hK17 => ?_
     refine wp_seq_k fun khK18 hK18 => ?_
     refine wp_region_lit ?_
     refine l_at hF rfl rfl rfl (x_faddr Tryd.underlying64 rfl ty3 (by decide) (hF.tmp 6 rfl) rfl) ?_; clear hF; intro a hF
     refine l_at hF rfl rfl rfl (x_load1 ty3 (hF.tmp 57 rfl) (blk_cell (hH.at 6 rfl) 0 rfl)) ?_; clear hF; intro a hF
     refine l_at hF rfl rfl rfl (x_eql (hF.tmp 58 rfl) rfl) ?_; clear hF; intro a hF
     refine wpList_nil ?_
     refine hK18 _ _ ?_
     have hJ59 : ∀ a w, ∀ nn : Int, Fr 208 a [(0, .slice A xs.length c), (3, .pointer (some ⟨bt, 0, none⟩)), (4, .pointer (some ⟨b28, 0, none⟩)), (5, .int .i64 (k : Int)), (6, .pointer (some ⟨b6, 0, none⟩)), (8, .bool true), (9, .int .i64 nn)] → Hp (fun _ => False) w0 w [(901, .rd_ SactE A xs c (fun k => k < w0.heap.size)), (990, .lib pp), (100, X), (101, Y), (1003, .rd_ OpdE (fA1_0) (gsact xs (k : Int)).req.ops fc1_0 (fun k => k < w0.heap.size)), (1006, .rd_ ResE (fA1_1) (gsact xs (k : Int)).ans.results fc1_1 (fun k => k < w0.heap.size)), (6, .blk b6 (.cells #[.int .i64 (gsact xs (k : Int)).kind, .string (strOfNums (gsact xs (k : Int)).req.client), .int .i64 (gsact xs (k : Int)).req.num, .slice fA1_0 (gsact xs (k : Int)).req.ops.length fc1_0, .int .i64 (gsact xs (k : Int)).ans.outcome, .int .i64 (gsact xs (k : Int)).ans.err, .slice fA1_1 (gsact xs (k : Int)).ans.results.length fc1_1] 64 (0, 0)))] → khK17 a w := by
      intro a w nn hF hH
      refine hK17 a w ?_
      refine wp_seq_k fun khK19 hK19 => ?_
      refine wp_seq_k fun khK20 hK20 => ?_
      refine wp_region_lit ?_
      refine l_at hF rfl rfl rfl (x_faddr Tryd.underlying64 rfl ty3 (by decide) (hF.tmp 6 rfl) rfl) ?_; clear hF; intro a hF
      refine l_at hF rfl rfl rfl (x_load1 ty3 (hF.tmp 63 rfl) (blk_cell (hH.at 6 rfl) 0 rfl)) ?_; clear hF; intro a hF
      refine wpList_nil ?_
      refine hK20 _ _ ?_
      refine wp_block ?_
      refine wp_seq_k fun khK21 hK21 => ?_
      refine wp_region_lit ?_
      refine l_at hF rfl rfl rfl (x_eql (hF.tmp 64 rfl) rfl) ?_; clear hF; intro a hF
      refine l_at hF rfl rfl rfl (x_assign (hF.tmp 66 rfl)) ?_; clear hF; intro a hF
      refine wpList_nil ?_
      refine hK21 _ _ ?_
      refine wp_norm_k fun khK22 hK22 => ?_
      have hJ65 : ∀ a w, ∀ Xj : Asn, ∀ mj : TabM, ∀ Yj : Asn, ∀ l1 : List KnowD, (TabA 122 bt mj Xj) → (TabB mj) → (KnoA 78 b28 l1 Yj) → (Rel l1 mj) → (l1.length ≤ k + 1) → Fr 208 a [(0, .slice A xs.length c), (3, .pointer (some ⟨bt, 0, none⟩)), (4, .pointer (some ⟨b28, 0, none⟩)), (5, .int .i64 (k : Int)), (8, .bool true)] → Hp (fun _ => False) w0 w [(901, .rd_ SactE A xs c (fun k => k < w0.heap.size)), (990, .lib pp), (100, Xj), (101, Yj), (1003, .rd_ OpdE (fA1_0) (gsact xs (k : Int)).req.ops fc1_0 (fun k => k < w0.heap.size)), (1006, .rd_ ResE (fA1_1) (gsact xs (k : Int)).ans.results fc1_1 (fun k => k < w0.heap.size)), (6, .blk b6 (.cells #[.int .i64 (gsact xs (k : Int)).kind, .string (strOfNums (gsact xs (k : Int)).req.client), .int .i64 (gsact xs (k : Int)).req.num, .slice fA1_0 (gsact xs (k : Int)).req.ops.length fc1_0, .int .i64 (gsact xs (k : Int)).ans.outcome, .int .i64 (gsact xs (k : Int)).ans.err, .slice fA1_1 (gsact xs (k : Int)).ans.results.length fc1_1] 64 (0, 0)))] → khK22 a w := by
       intro a w Xj mj Yj l1 hj65_0 hj65_1 hj65_2 hj65_3 hj65_4 hF hH
       refine hK22 a w ?_
       refine hK19 _ _ ?_
       refine wp_seq_k fun khK23 hK23 => ?_
       refine wp_seq_k fun khK24 hK24 => ?_
       refine wp_region_lit ?_
       refine l_at hF rfl rfl rfl (x_move (hF.tmp 8 rfl)) ?_; clear hF; intro a hF
       refine l_at hF rfl rfl rfl (x_not (hF.tmp 151 rfl)) ?_; clear hF; intro a hF
       refine wpList_nil ?_
       refine hK24 _ _ ?_
       refine wp_cond_false (hF.tmp 152 rfl) ?_
       refine wp_skip ?_
       refine hK23 _ _ ?_
       refine wp_seq_k fun khK25 hK25 => ?_
       refine wp_seq_k fun khK26 hK26 => ?_
       refine wp_region_lit ?_
       obtain ⟨Al, cl, okl, rfl⟩ := hj65_2
       have hH := hH.unbundle (L := [(1, .blk b28 (.cells #[.slice Al l1.length cl] 78 (0, 0))), (2, .rd_ KnowE Al l1 cl okl)]) (N := [(901, .rd_ SactE A xs c (fun k => k < w0.heap.size)), (990, .lib pp), (100, Xj), (1003, .rd_ OpdE (fA1_0) (gsact xs (k : Int)).req.ops fc1_0 (fun k => k < w0.heap.size)), (1006, .rd_ ResE (fA1_1) (gsact xs (k : Int)).ans.results fc1_1 (fun k => k < w0.heap.size)), (6, .blk b6 (.cells #[.int .i64 (gsact xs (k : Int)).kind, .string (strOfNums (gsact xs (k : Int)).req.client), .int .i64 (gsact xs (k : Int)).req.num, .slice fA1_0 (gsact xs (k : Int)).req.ops.length fc1_0, .int .i64 (gsact xs (k : Int)).ans.outcome, .int .i64 (gsact xs (k : Int)).ans.err, .slice fA1_1 (gsact xs (k : Int)).ans.results.length fc1_1] 64 (0, 0)))]) 101 rfl (sub_cons (sub_cons (sub_cons (sub_cons (sub_cons (sub_cons (sub_nil _) 6 rfl) 1006 rfl) 1003 rfl) 100 rfl) 990 rfl) 901 rfl) rfl
       have hll := (hH.rd 2 rfl).le; unfold maxLen at hll
       refine l_at hF rfl rfl rfl (x_assign rfl) ?_; clear hF; intro a hF
       refine wpList_nil ?_
       refine hK26 _ _ ?_
       refine wp_block ?_
       refine wp_loop_ghost (fun n_ a w => ∃ j : Nat, n_ = l1.length - j ∧ (j ≤ l1.length) ∧ Fr 208 a [(0, .slice A xs.length c), (3, .pointer (some ⟨bt, 0, none⟩)), (4, .pointer (some ⟨b28, 0, none⟩)), (5, .int .i64 (k : Int)), (21, .int .i64 (j : Int))] ∧ Hp (fun _ => False) w0 w [(1, .blk b28 (.cells #[.slice Al l1.length cl] 78 (0, 0))), (2, .rd_ KnowE Al l1 cl okl), (901, .rd_ SactE A xs c (fun k => k < w0.heap.size)), (990, .lib pp), (100, Xj), (1003, .rd_ OpdE (fA1_0) (gsact xs (k : Int)).req.ops fc1_0 (fun k => k < w0.heap.size)), (1006, .rd_ ResE (fA1_1) (gsact xs (k : Int)).ans.results fc1_1 (fun k => k < w0.heap.size)), (6, .blk b6 (.cells #[.int .i64 (gsact xs (k : Int)).kind, .string (strOfNums (gsact xs (k : Int)).req.client), .int .i64 (gsact xs (k : Int)).req.num, .slice fA1_0 (gsact xs (k : Int)).req.ops.length fc1_0, .int .i64 (gsact xs (k : Int)).ans.outcome, .int .i64 (gsact xs (k : Int)).ans.err, .slice fA1_1 (gsact xs (k : Int)).ans.results.length fc1_1] 64 (0, 0)))]) (l1.length) ?_ ?_
       ·exact ⟨0, rfl, by omega, (((((hF.bare.add hF 21 rfl).add hF 5 rfl).add hF 4 rfl).add hF 3 rfl).add hF 0 rfl), hH.sub _ (sub_cons (sub_cons (sub_cons (sub_cons (sub_cons (sub_cons (sub_cons (sub_cons (sub_nil _) 6 rfl) 1006 rfl) 1003 rfl) 100 rfl) 990 rfl) 901 rfl) 2 rfl) 1 rfl)⟩
       ·rintro _ a w ⟨j, rfl, hq7_0, hF, hH⟩
        refine wp_seq_k fun khK27 hK27 => ?_
        refine wp_seq_k fun khK28 hK28 => ?_
        refine wp_region_lit ?_
        refine l_at hF rfl rfl rfl (x_move (hF.tmp 21 rfl)) ?_; clear hF; intro a hF
        refine l_at hF rfl rfl rfl (x_move (hF.tmp 4 rfl)) ?_; clear hF; intro a hF
        refine l_at hF rfl rfl rfl (x_nil (hF.tmp 154 rfl)) ?_; clear hF; intro a hF
        refine l_at hF rfl rfl rfl (x_faddr Tryd.underlying78 rfl ty76 (by decide) (hF.tmp 155 rfl) rfl) ?_; clear hF; intro a hF
        refine l_at hF rfl rfl rfl (x_load1 ty76 (hF.tmp 156 rfl) (blk_cell (hH.at 1 rfl) 0 rfl)) ?_; clear hF; intro a hF
        refine l_at hF rfl rfl rfl (x_len_slice Tryd.underlying76 (hF.tmp 157 rfl)) ?_; clear hF; intro a hF
        refine l_at hF rfl rfl rfl (x_lss (hF.tmp 153 rfl) (hF.tmp 158 rfl)) ?_; clear hF; intro a hF
        refine wpList_nil ?_
        refine hK28 _ _ ?_
        refine wp_cond_split (hF.tmp 159 rfl) (fun hc159 => ?_) (fun hc159 => ?_)
        ·have hk159_4 := hc159; try simp only [Bool.or_eq_true, Bool.and_eq_true, Bool.or_eq_false_iff, Bool.and_eq_false_iff, Bool.not_eq_true', Bool.not_eq_false', decide_eq_true_eq, decide_eq_false_iff_not, Bool.not_true, Bool.not_false] at hc159
         refine wp_skip ?_
         refine hK27 _ _ ?_
         refine wp_seq_k fun khK29 hK29 => ?_
         refine wp_block ?_
         refine wp_seq_k fun khK30 hK30 => ?_
         refine wp_region_lit ?_
         obtain ⟨fA3, fc3, hfr3, hf3_0, hf3_1, hf3_2, hf3_3, hf3_4, hf3_5, hfw3⟩ := rd_know ((hH.rd 2 rfl)) (gknow_some (xs := l1) (i := (j : Int)) (by omega) (by omega))
         have hH := hH.subrd 2 rfl 3005 hfr3 (fun _ h => h)
         have hH := hH.subcels 2 rfl 3499 hfw3 (Rd.inok ((hH.rd 2 rfl)) (by omega) _)
         have hH := hH.subcel 2 rfl 3500 hf3_0 (Rd.inok ((hH.rd 2 rfl)) (by omega) _)
         have hH := hH.subcel 2 rfl 3501 hf3_1 (Rd.inok ((hH.rd 2 rfl)) (by omega) _)
         have hH := hH.subcel 2 rfl 3502 hf3_2 (Rd.inok ((hH.rd 2 rfl)) (by omega) _)
         have hH := hH.subcel 2 rfl 3503 hf3_3 (Rd.inok ((hH.rd 2 rfl)) (by omega) _)
         have hH := hH.subcel 2 rfl 3504 hf3_4 (Rd.inok ((hH.rd 2 rfl)) (by omega) _)
         have hH := hH.subcel 2 rfl 3505 hf3_5 (Rd.inok ((hH.rd 2 rfl)) (by omega) _)
         refine l_at hF rfl rfl rfl (x_move (hF.tmp 3 rfl)) ?_; clear hF; intro a hF
         refine l_at hF rfl rfl rfl (x_move (hF.tmp 4 rfl)) ?_; clear hF; intro a hF
         refine l_at hF rfl rfl rfl (x_nil (hF.tmp 164 rfl)) ?_; clear hF; intro a hF
         refine l_at hF rfl rfl rfl (x_faddr Tryd.underlying78 rfl ty76 (by decide) (hF.tmp 165 rfl) rfl) ?_; clear hF; intro a hF
         refine l_at hF rfl rfl rfl (x_load1 ty76 (hF.tmp 166 rfl) (blk_cell (hH.at 1 rfl) 0 rfl)) ?_; clear hF; intro a hF
         refine l_at hF rfl rfl rfl (x_move (hF.tmp 21 rfl)) ?_; clear hF; intro a hF
         refine l_at hF rfl rfl rfl (x_iaddr_A Tryd.underlying76 ty87 ((hH.rd 2 rfl)) (hF.tmp 167 rfl) (hF.tmp 168 rfl) (by omega) (by omega) _) ?_; clear hF; intro a hF
         refine l_at hF rfl rfl rfl (x_faddrA ((hH.rd 2 rfl)) (by omega) _ Tryd.underlying87 rfl ty9 (by decide) (hF.tmp 169 rfl) rfl) ?_; clear hF; intro a hF
         refine l_at hF rfl rfl rfl (x_load1 ty9 (hF.tmp 170 rfl) (hH.holds 3500 _ rfl)) ?_; clear hF; intro a hF
         refine wpList_plain rfl fun K hK => ?_
         refine w_call hF (x_enter Tryd.func31 (by kernel_rfl) rfl (by simp only [List.map_toArray, List.map_cons, List.map_nil, hF.tmp 163 rfl, hF.tmp 171 rfl] <;> rfl)) (last_at (g := (gknow l1 (j : Int))) _ hj65_0 (hH.okX 100 rfl) _ (rel_last hj65_3 (by omega))) rfl rfl ?_
         rintro _ w ⟨rfl, hm_⟩; refine ⟨_, rfl, ?_⟩; clear hF; intro a hF; have hH := hH.same hm_
         refine hK _ _ ?_; clear hK K
         refine l_at hF rfl rfl rfl (x_move (hF.tmp 172 rfl)) ?_; clear hF; intro a hF
         refine l_at hF rfl rfl rfl (x_extract (hF.tmp 162 rfl) rfl) ?_; clear hF; intro a hF
         refine l_at hF rfl rfl rfl (x_extract (hF.tmp 162 rfl) rfl) ?_; clear hF; intro a hF
         refine l_at hF rfl rfl rfl (x_assign (hF.tmp 173 rfl)) ?_; clear hF; intro a hF
         refine l_at hF rfl rfl rfl (x_assign (hF.tmp 174 rfl)) ?_; clear hF; intro a hF
         refine wpList_nil ?_
         refine hK30 _ _ ?_
         refine wp_seq_k fun khK31 hK31 => ?_
         refine wp_region_lit ?_
         refine l_at hF rfl rfl rfl (x_move (hF.tmp 22 rfl)) ?_; clear hF; intro a hF
         refine l_at hF rfl rfl rfl (x_move (hF.tmp 4 rfl)) ?_; clear hF; intro a hF
         refine l_at hF rfl rfl rfl (x_nil (hF.tmp 176 rfl)) ?_; clear hF; intro a hF
         refine l_at hF rfl rfl rfl (x_faddr Tryd.underlying78 rfl ty76 (by decide) (hF.tmp 177 rfl) rfl) ?_; clear hF; intro a hF
         refine l_at hF rfl rfl rfl (x_load1 ty76 (hF.tmp 178 rfl) (blk_cell (hH.at 1 rfl) 0 rfl)) ?_; clear hF; intro a hF
         refine l_at hF rfl rfl rfl (x_move (hF.tmp 21 rfl)) ?_; clear hF; intro a hF
         refine l_at hF rfl rfl rfl (x_iaddr_A Tryd.underlying76 ty87 ((hH.rd 2 rfl)) (hF.tmp 179 rfl) (hF.tmp 180 rfl) (by omega) (by omega) _) ?_; clear hF; intro a hF
         refine l_at hF rfl rfl rfl (x_faddrA ((hH.rd 2 rfl)) (by omega) _ Tryd.underlying87 rfl ty3 (by decide) (hF.tmp 181 rfl) rfl) ?_; clear hF; intro a hF
         refine l_at hF rfl rfl rfl (x_load1 ty3 (hF.tmp 182 rfl) (hH.holds 3501 _ rfl)) ?_; clear hF; intro a hF
         refine l_at hF rfl rfl rfl (x_neq (hF.tmp 175 rfl) (hF.tmp 183 rfl)) ?_; clear hF; intro a hF
         rw [show (!decide ((gknow l1 (j : Int)).number = (gknow l1 (j : Int)).number)) = false from by simp] at hF
         refine l_at hF rfl rfl rfl (x_move (hF.tmp 184 rfl)) ?_; clear hF; intro a hF
         refine l_atg hF ((wanted_of hF rfl rfl rfl rfl).trans rfl) rfl rfl (x_move (hF.tmp 23 rfl)) ?_; clear hF; intro a hF
         refine l_atg hF ((wanted_of hF rfl rfl rfl rfl).trans rfl) rfl rfl (x_move (hF.tmp 4 rfl)) ?_; clear hF; intro a hF
         refine l_atg hF ((wanted_of hF rfl rfl rfl rfl).trans rfl) rfl rfl (x_nil (hF.tmp 187 rfl)) ?_; clear hF; intro a hF
         refine l_atg hF ((wanted_of hF rfl rfl rfl rfl).trans rfl) rfl rfl (x_faddr Tryd.underlying78 rfl ty76 (by decide) (hF.tmp 188 rfl) rfl) ?_; clear hF; intro a hF
         refine l_atg hF ((wanted_of hF rfl rfl rfl rfl).trans rfl) rfl rfl (x_load1 ty76 (hF.tmp 189 rfl) (blk_cell (hH.at 1 rfl) 0 rfl)) ?_; clear hF; intro a hF
         refine l_atg hF ((wanted_of hF rfl rfl rfl rfl).trans rfl) rfl rfl (x_move (hF.tmp 21 rfl)) ?_; clear hF; intro a hF
         refine l_atg hF ((wanted_of hF rfl rfl rfl rfl).trans rfl) rfl rfl (x_iaddr_A Tryd.underlying76 ty87 ((hH.rd 2 rfl)) (hF.tmp 190 rfl) (hF.tmp 191 rfl) (by omega) (by omega) _) ?_; clear hF; intro a hF
         refine l_atg hF ((wanted_of hF rfl rfl rfl rfl).trans rfl) rfl rfl (x_faddrA ((hH.rd 2 rfl)) (by omega) _ Tryd.underlying87 rfl ty4 (by decide) (hF.tmp 192 rfl) rfl) ?_; clear hF; intro a hF
         refine l_atg hF ((wanted_of hF rfl rfl rfl rfl).trans rfl) rfl rfl (x_load1 ty4 (hF.tmp 193 rfl) (hH.holds 3502 _ rfl)) ?_; clear hF; intro a hF
         refine l_atg hF ((wanted_of hF rfl rfl rfl rfl).trans rfl) rfl rfl (x_neb (hF.tmp 186 rfl) (hF.tmp 194 rfl) Tryd.underlying4) ?_; clear hF; intro a hF
         rw [show (!((gknow l1 (j : Int)).finished == (gknow l1 (j : Int)).finished)) = false from by simp] at hF
         refine l_at hF rfl rfl rfl (x_pickF (hF.tmp 185 rfl) rfl (hF.tmp 195 rfl)) ?_; clear hF; intro a hF
         refine wpList_nil ?_
         refine hK31 _ _ ?_
         refine wp_cond_false (hF.tmp 196 rfl) ?_
         refine wp_skip ?_
         refine hK29 _ _ ?_
         refine wp_region_lit ?_
         refine l_at hF rfl rfl rfl (x_move (hF.tmp 21 rfl)) ?_; clear hF; intro a hF
         refine l_at hF rfl rfl rfl (x_add (hF.tmp 160 rfl) rfl (w64 (by omega) (by omega))) ?_; clear hF; intro a hF
         refine l_at hF rfl rfl rfl (x_assign (hF.tmp 161 rfl)) ?_; clear hF; intro a hF
         refine wpList_nil ?_
         exact ⟨_, by omega, ⟨j + 1, rfl, by omega, (((((hF.bare.add hF 21 rfl).add hF 5 rfl).add hF 4 rfl).add hF 3 rfl).add hF 0 rfl), hH.sub _ (sub_cons (sub_cons (sub_cons (sub_cons (sub_cons (sub_cons (sub_cons (sub_cons (sub_nil _) 6 rfl) 1006 rfl) 1003 rfl) 100 rfl) 990 rfl) 901 rfl) 2 rfl) 1 rfl)⟩⟩
        ·have hk159_5 := hc159; try simp only [Bool.or_eq_true, Bool.and_eq_true, Bool.or_eq_false_iff, Bool.and_eq_false_iff, Bool.not_eq_true', Bool.not_eq_false', decide_eq_true_eq, decide_eq_false_iff_not, Bool.not_true, Bool.not_false] at hc159
         refine wp_exit ?_
         refine hK25 _ _ ?_
         refine wp_seq_k fun khK32 hK32 => ?_
         refine wp_region_lit ?_
         have hH := hH.bundle (L := [(1, .blk b28 (.cells #[.slice Al l1.length cl] 78 (0, 0))), (2, .rd_ KnowE Al l1 cl okl)]) (N := [(901, .rd_ SactE A xs c (fun k => k < w0.heap.size)), (990, .lib pp), (100, Xj), (1003, .rd_ OpdE (fA1_0) (gsact xs (k : Int)).req.ops fc1_0 (fun k => k < w0.heap.size)), (1006, .rd_ ResE (fA1_1) (gsact xs (k : Int)).ans.results fc1_1 (fun k => k < w0.heap.size)), (6, .blk b6 (.cells #[.int .i64 (gsact xs (k : Int)).kind, .string (strOfNums (gsact xs (k : Int)).req.client), .int .i64 (gsact xs (k : Int)).req.num, .slice fA1_0 (gsact xs (k : Int)).req.ops.length fc1_0, .int .i64 (gsact xs (k : Int)).ans.outcome, .int .i64 (gsact xs (k : Int)).ans.err, .slice fA1_1 (gsact xs (k : Int)).ans.results.length fc1_1] 64 (0, 0)))]) 101 (sub_cons (sub_cons (sub_nil _) 2 rfl) 1 rfl) (sub_cons (sub_cons (sub_cons (sub_cons (sub_cons (sub_cons (sub_nil _) 6 rfl) 1006 rfl) 1003 rfl) 100 rfl) 990 rfl) 901 rfl) (apart_cons rfl (apart_cons rfl (apart_nil _)))
         refine l_at hF rfl rfl rfl (x_move (hF.tmp 3 rfl)) ?_; clear hF; intro a hF
         refine wpList_plain rfl fun K hK => ?_
         refine w_call hF (x_enter Tryd.func31 (by kernel_rfl) rfl (by simp only [List.map_toArray, List.map_cons, List.map_nil, hF.tmp 198 rfl] <;> rfl)) (last_zero_calls _ hj65_0 (hH.okX 100 rfl) _ (rel_nobody hj65_3)) rfl rfl ?_
         rintro _ w ⟨rfl, hm_⟩; refine ⟨_, rfl, ?_⟩; clear hF; intro a hF; have hH := hH.same hm_
         refine hK _ _ ?_; clear hK K
         refine l_at hF rfl rfl rfl (x_move (hF.tmp 199 rfl)) ?_; clear hF; intro a hF
         refine l_at hF rfl rfl rfl (x_extract (hF.tmp 197 rfl) rfl) ?_; clear hF; intro a hF
         refine l_at hF rfl rfl rfl (x_extract (hF.tmp 197 rfl) rfl) ?_; clear hF; intro a hF
         refine l_at hF rfl rfl rfl (x_assign (hF.tmp 200 rfl)) ?_; clear hF; intro a hF
         refine l_at hF rfl rfl rfl (x_assign (hF.tmp 201 rfl)) ?_; clear hF; intro a hF
         refine wpList_nil ?_
         refine hK32 _ _ ?_
         refine wp_seq_k fun khK33 hK33 => ?_
         refine wp_region_lit ?_
         refine l_at hF rfl rfl rfl (x_move (hF.tmp 24 rfl)) ?_; clear hF; intro a hF
         refine l_at hF rfl rfl rfl (x_neq (hF.tmp 202 rfl) rfl) ?_; clear hF; intro a hF
         refine l_at hF rfl rfl rfl (x_move (hF.tmp 203 rfl)) ?_; clear hF; intro a hF
         refine l_atg hF ((wanted_of hF rfl rfl rfl rfl).trans rfl) rfl rfl (x_move (hF.tmp 25 rfl)) ?_; clear hF; intro a hF
         refine l_at hF rfl rfl rfl (x_pickF (hF.tmp 204 rfl) rfl (hF.tmp 205 rfl)) ?_; clear hF; intro a hF
         refine wpList_nil ?_
         refine hK33 _ _ ?_
         refine wp_cond_false (hF.tmp 206 rfl) ?_
         refine wp_skip ?_
         refine hK10 _ _ ?_
         refine wp_region_lit ?_
         refine l_at hF rfl rfl rfl (x_move (hF.tmp 5 rfl)) ?_; clear hF; intro a hF
         refine l_at hF rfl rfl rfl (x_add (hF.tmp 39 rfl) rfl (w64 (by omega) (by omega))) ?_; clear hF; intro a hF
         refine l_at hF rfl rfl rfl (x_assign (hF.tmp 40 rfl)) ?_; clear hF; intro a hF
         refine wpList_nil ?_
         exact ⟨_, by omega, ⟨k + 1, Xj, mj, Asn.all [(1, .blk b28 (.cells #[.slice Al l1.length cl] 78 (0, 0))), (2, .rd_ KnowE Al l1 cl okl)], l1, rfl, by omega, hj65_0, hj65_1, (⟨_, _, _, rfl⟩ : KnoA 78 b28 l1 _), hj65_3, by omega, ((((hF.bare.add hF 5 rfl).add hF 4 rfl).add hF 3 rfl).add hF 0 rfl), hH.sub _ (sub_cons (sub_cons (sub_cons (sub_cons (sub_nil _) 101 rfl) 100 rfl) 990 rfl) 901 rfl)⟩⟩
      refine wp_cond_split (hF.tmp 65 rfl) (fun hc65 => ?_) (fun hc65 => ?_)
      ·have hk65_6 := hc65; try simp only [Bool.or_eq_true, Bool.and_eq_true, Bool.or_eq_false_iff, Bool.and_eq_false_iff, Bool.not_eq_true', Bool.not_eq_false', decide_eq_true_eq, decide_eq_false_iff_not, Bool.not_true, Bool.not_false] at hc65
       refine wp_seq_k fun khK34 hK34 => ?_
       refine wp_region_lit ?_
       refine l_at hF rfl rfl rfl (x_move (hF.tmp 3 rfl)) ?_; clear hF; intro a hF
       refine l_at hF rfl rfl rfl (x_faddr Tryd.underlying64 rfl ty45 (by decide) (hF.tmp 6 rfl) rfl) ?_; clear hF; intro a hF
       refine l_at hF rfl rfl rfl (x_loadn (cs := #[.string (strOfNums (gsact xs (k : Int)).req.client), .int .i64 (gsact xs (k : Int)).req.num, .slice fA1_0 (gsact xs (k : Int)).req.ops.length fc1_0]) ty45 (hF.tmp 69 rfl) rfl (blk_sub (hH.at 6 rfl) 1 3 rfl)) ?_; clear hF; intro a hF
       refine wpList_plain rfl fun K hK => ?_
       refine w_call hF (x_enter Tryd.func27 (by kernel_rfl) rfl (by simp only [List.map_toArray, List.map_cons, List.map_nil, hF.tmp 68 rfl, hF.tmp 70 rfl] <;> rfl)) (ask_calls (r := (gsact xs (k : Int)).req) _ (hH.holds 990 _ rfl) hq0_1 (hH.okX 100 rfl) hq0_2 (fun k h hx => hH.sep 100 990 _ _ (by decide) rfl rfl k hx (.inr h)) ((hH.rd 1003 rfl)) hbx.req (fun k h => hH.inb 1003 _ rfl k (.inr h)) (fun k h hx => hH.sep 100 1003 _ _ (by decide) rfl rfl k hx (.inr h))) rfl rfl ?_
       rintro _ w ⟨X1, vr70, rfl, hX1, hg_, hr_, ha_⟩; refine ⟨_, rfl, ?_⟩; clear hF; intro a hF; have hH := hH.grewRow 100 rfl hg_ (fun k hk => hk.elim) 70 hr_.1 hr_.2 ha_; obtain ⟨Ar70, cr70, rfl⟩ := (hH.row 70 rfl).form
       refine hK _ _ ?_; clear hK K
       refine l_at hF rfl rfl rfl (x_move (hF.tmp 71 rfl)) ?_; clear hF; intro a hF
       refine l_at hF rfl rfl rfl (x_extract (hF.tmp 67 rfl) rfl) ?_; clear hF; intro a hF
       refine l_at hF rfl rfl rfl (x_extract (hF.tmp 67 rfl) rfl) ?_; clear hF; intro a hF
       refine l_at hF rfl rfl rfl (x_extract (hF.tmp 67 rfl) rfl) ?_; clear hF; intro a hF
       refine wpList_plain rfl fun K hK => ?_
       refine w_alloc 11 hF hH rfl ty62 ?_
       clear hF hH; intro a w b11 hF hH
       refine hK _ _ ?_; clear hK K
       refine wpList_plain rfl fun K hK => ?_
       refine w_storeA 11 hH ty62 rfl (hF.tmp 11 rfl) (hF.tmp 72 rfl) rfl (by simp [Value.cells, Value.oneCell']) rfl ?_
       clear hH; intro w hH
       refine hK _ _ ?_; clear hK K
       refine l_at hF rfl rfl rfl (x_assign (hF.tmp 73 rfl)) ?_; clear hF; intro a hF
       refine l_at hF rfl rfl rfl (x_assign (hF.tmp 74 rfl)) ?_; clear hF; intro a hF
       refine wpList_nil ?_
       refine hK34 _ _ ?_
       refine wp_seq_k fun khK35 hK35 => ?_
       refine wp_region_lit ?_
       refine l_at hF rfl rfl rfl (x_move (hF.tmp 4 rfl)) ?_; clear hF; intro a hF
       refine l_at hF rfl rfl rfl (x_faddr Tryd.underlying64 rfl ty45 (by decide) (hF.tmp 6 rfl) rfl) ?_; clear hF; intro a hF
       refine l_at hF rfl rfl rfl (x_loadn (cs := #[.string (strOfNums (gsact xs (k : Int)).req.client), .int .i64 (gsact xs (k : Int)).req.num, .slice fA1_0 (gsact xs (k : Int)).req.ops.length fc1_0]) ty45 (hF.tmp 77 rfl) rfl (blk_sub (hH.at 6 rfl) 1 3 rfl)) ?_; clear hF; intro a hF
       refine wpList_plain rfl fun K hK => ?_
       refine w_call hF (x_enter Tryd.func33 (by kernel_rfl) rfl (by simp only [List.map_toArray, List.map_cons, List.map_nil, hF.tmp 78 rfl] <;> rfl)) (told_calls (r := (gsact xs (k : Int)).req) _ ((hH.rd 1003 rfl))) rfl rfl ?_
       rintro _ w ⟨rfl, hm_⟩; refine ⟨_, rfl, ?_⟩; clear hF; intro a hF; have hH := hH.same hm_
       refine hK _ _ ?_; clear hK K
       refine wpList_plain rfl fun K hK => ?_
       refine w_call hF (x_enter Tryd.func32 (by kernel_rfl) rfl (by simp only [List.map_toArray, List.map_cons, List.map_nil, hF.tmp 76 rfl, hF.tmp 79 rfl] <;> rfl)) (kask_calls (r := (gsact xs (k : Int)).req) _ hq0_3 (hH.okX 101 rfl) hq0_4 (by omega) ((hH.rd 1003 rfl)) hbx.req (fun k h => hH.inb 1003 _ rfl k (.inr h)) (fun k h hx => hH.sep 101 1003 _ _ (by decide) rfl rfl k hx (.inr h))) rfl rfl ?_
       rintro _ w ⟨l1, Y1, A71, c71, rfl, hY1, hR1, hl1, hg_, hrd_⟩; refine ⟨_, rfl, ?_⟩; clear hF; intro a hF; have hH := hH.grew 101 rfl hg_ (fun k hk => hk.elim); have hH := hH.subrd 101 rfl 71 hrd_ (fun _ h => h)
       refine hK _ _ ?_; clear hK K
       refine l_at hF rfl rfl rfl (x_move (hF.tmp 80 rfl)) ?_; clear hF; intro a hF
       refine l_at hF rfl rfl rfl (x_extract (hF.tmp 75 rfl) rfl) ?_; clear hF; intro a hF
       refine l_at hF rfl rfl rfl (x_extract (hF.tmp 75 rfl) rfl) ?_; clear hF; intro a hF
       refine l_at hF rfl rfl rfl (x_extract (hF.tmp 75 rfl) rfl) ?_; clear hF; intro a hF
       refine wpList_plain rfl fun K hK => ?_
       refine w_alloc 14 hF hH rfl ty68 ?_
       clear hF hH; intro a w b14 hF hH
       refine hK _ _ ?_; clear hK K
       refine wpList_plain rfl fun K hK => ?_
       refine w_storeA 14 hH ty68 rfl (hF.tmp 14 rfl) (hF.tmp 81 rfl) rfl (by simp [Value.cells, Value.oneCell']) rfl ?_
       clear hH; intro w hH
       refine hK _ _ ?_; clear hK K
       refine l_at hF rfl rfl rfl (x_assign (hF.tmp 82 rfl)) ?_; clear hF; intro a hF
       refine l_at hF rfl rfl rfl (x_assign (hF.tmp 83 rfl)) ?_; clear hF; intro a hF
       refine wpList_nil ?_
       refine hK35 _ _ ?_
       refine wp_seq_k fun khK36 hK36 => ?_
       refine r_start [(11, .blk b11 (.cells #[.int .i64 (askA m (gsact xs (k : Int)).req).outcome, .int .i64 (askA m (gsact xs (k : Int)).req).err, .slice Ar70 (askA m (gsact xs (k : Int)).req).results.length cr70] 62 (0, 0))), (14, .blk b14 (.cells #[.int .i64 (askA m (gsact xs (k : Int)).req).outcome, .int .i64 (askA m (gsact xs (k : Int)).req).err, .slice A71 (askA m (gsact xs (k : Int)).req).results.length c71] 68 (0, 0)))] (by kernel_rfl) hH fun hH => ?_
       have hS : SL [(11, .blk b11 (.cells #[.int .i64 (askA m (gsact xs (k : Int)).req).outcome, .int .i64 (askA m (gsact xs (k : Int)).req).err, .slice Ar70 (askA m (gsact xs (k : Int)).req).results.length cr70] 62 (0, 0))), (14, .blk b14 (.cells #[.int .i64 (askA m (gsact xs (k : Int)).req).outcome, .int .i64 (askA m (gsact xs (k : Int)).req).err, .slice A71 (askA m (gsact xs (k : Int)).req).results.length c71] 68 (0, 0)))] _ := SL.of hH (sub_cons (sub_cons (sub_nil _) 14 rfl) 11 rfl)
       refine r_take 0 hF rfl rfl rfl (by kernel_rfl) (by kernel_rfl) (by kernel_rfl) (fun _ _ _ h => h) rfl hS (fun w hS => x_loadn ty62 (hF.tmp 11 rfl) rfl (blk_whole (SL.at_ hS 11 rfl))) rfl ?_; clear hF; intro a hF
       refine r_take 2 hF rfl rfl rfl (by kernel_rfl) (by kernel_rfl) (by kernel_rfl) (fun _ _ _ h => h) rfl hS (fun w hS => x_loadn ty68 (hF.tmp 14 rfl) rfl (blk_whole (SL.at_ hS 14 rfl))) rfl ?_; clear hF; intro a hF
       refine r_do 1 rfl (by kernel_rfl) rfl rfl ?_
       refine w_call hF (x_enter Tryd.func29 (by kernel_rfl) rfl (by simp only [List.map_toArray, List.map_cons, List.map_nil, hF.tmp 84 rfl] <;> rfl)) (answer_calls (y := (askA m (gsact xs (k : Int)).req)) _ (Row.rd (ok' := fun k_ => (fun _ => False) k_ ∨ (.slice Ar70 (askA m (gsact xs (k : Int)).req).results.length cr70 : Value).ownBlock = some k_) (hH.row 70 rfl) (fun _ hk_ _ => .inl hk_) (fun _ hk_ => .inr hk_))) rfl rfl ?_
       rintro _ w ⟨rfl, hm_⟩; refine ⟨_, rfl, ?_⟩; clear hF; intro a hF; have hH := hH.same hm_
       clear hS; have hS : SL _ _ := SL.of hH (sub_cons (sub_cons (sub_nil _) 14 rfl) 11 rfl); refine ⟨hS, ?_⟩
       refine r_do 3 rfl (by kernel_rfl) rfl rfl ?_
       refine w_call hF (x_enter Tryd.func28 (by kernel_rfl) rfl (by simp only [List.map_toArray, List.map_cons, List.map_nil, hF.tmp 85 rfl, hF.tmp 86 rfl] <;> rfl)) (sameA_calls (p := (askA m (gsact xs (k : Int)).req)) (q := (askA m (gsact xs (k : Int)).req)) _ (Row.rd (ok' := fun k_ => (fun _ => False) k_ ∨ (.slice Ar70 (askA m (gsact xs (k : Int)).req).results.length cr70 : Value).ownBlock = some k_) (hH.row 70 rfl) (fun _ hk_ _ => .inl hk_) (fun _ hk_ => .inr hk_)) ((hH.rd 71 rfl)) (askA_ok hq0_2 _).1 (askA_ok hq0_2 _).1) rfl rfl ?_
       rintro _ w ⟨rfl, hm_⟩; refine ⟨_, rfl, ?_⟩; clear hF; intro a hF; have hH := hH.same hm_
       clear hS; have hS : SL _ _ := SL.of hH (sub_cons (sub_cons (sub_nil _) 14 rfl) 11 rfl); refine ⟨hS, ?_⟩
       rw [decide_eq_true (rfl : (askA m (gsact xs (k : Int)).req) = (askA m (gsact xs (k : Int)).req))] at hF
       refine r_take 4 hF rfl rfl rfl (by kernel_rfl) (by kernel_rfl) (by kernel_rfl) (fun _ _ _ h => h) rfl hS (fun w hS => x_assign (hF.tmp 87 rfl)) rfl ?_; clear hF; intro a hF
       refine r_end (by kernel_rfl) ?_; clear hS
       refine hK36 _ _ ?_
       refine wp_seq_k fun khK37 hK37 => ?_
       refine wp_region_lit ?_
       refine l_at hF rfl rfl rfl (x_move (hF.tmp 17 rfl)) ?_; clear hF; intro a hF
       refine l_at hF rfl rfl rfl (x_move (hF.tmp 88 rfl)) ?_; clear hF; intro a hF
       refine l_atg hF ((wanted_of hF rfl rfl rfl rfl).trans rfl) rfl rfl (x_move (hF.tmp 12 rfl)) ?_; clear hF; intro a hF
       refine l_atg hF ((wanted_of hF rfl rfl rfl rfl).trans rfl) rfl rfl (x_move (hF.tmp 15 rfl)) ?_; clear hF; intro a hF
       refine l_atg hF ((wanted_of hF rfl rfl rfl rfl).trans rfl) rfl rfl (x_eqb (hF.tmp 90 rfl) (hF.tmp 91 rfl) Tryd.underlying4) ?_; clear hF; intro a hF
       rw [beq_self_eq_true (askF m (gsact xs (k : Int)).req)] at hF
       refine l_at hF rfl rfl rfl (x_pickT (hF.tmp 89 rfl) rfl (hF.tmp 92 rfl)) ?_; clear hF; intro a hF
       refine l_at hF rfl rfl rfl (x_move (hF.tmp 93 rfl)) ?_; clear hF; intro a hF
       refine l_atg hF ((wanted_of hF rfl rfl rfl rfl).trans rfl) rfl rfl (x_move (hF.tmp 13 rfl)) ?_; clear hF; intro a hF
       refine l_atg hF ((wanted_of hF rfl rfl rfl rfl).trans rfl) rfl rfl (x_move (hF.tmp 16 rfl)) ?_; clear hF; intro a hF
       refine l_atg hF ((wanted_of hF rfl rfl rfl rfl).trans rfl) rfl rfl (x_eql (hF.tmp 95 rfl) (hF.tmp 96 rfl)) ?_; clear hF; intro a hF
       rw [decide_eq_true (rfl : askE m (gsact xs (k : Int)).req = askE m (gsact xs (k : Int)).req)] at hF
       refine l_at hF rfl rfl rfl (x_pickT (hF.tmp 94 rfl) rfl (hF.tmp 97 rfl)) ?_; clear hF; intro a hF
       refine l_at hF rfl rfl rfl (x_assign (hF.tmp 98 rfl)) ?_; clear hF; intro a hF
       refine wpList_nil ?_
       refine hK37 _ _ ?_
       refine wp_seq_k fun khK38 hK38 => ?_
       refine wp_region_lit ?_
       refine l_at hF rfl rfl rfl (x_assign rfl) ?_; clear hF; intro a hF
       refine wpList_nil ?_
       refine hK38 _ _ ?_
       refine wp_block ?_
       refine wp_loop_ghost (fun n_ a w => ∃ j : Nat, ∃ rs : List ResultD, n_ = 41 - j ∧ (j ≤ rs.length) ∧ (rs.length ≤ 40) ∧ Fr 208 a [(0, .slice A xs.length c), (3, .pointer (some ⟨bt, 0, none⟩)), (4, .pointer (some ⟨b28, 0, none⟩)), (5, .int .i64 (k : Int)), (8, .bool true), (11, .pointer (some ⟨b11, 0, none⟩)), (18, .int .i64 (j : Int))] ∧ Hp (fun _ => False) w0 w [(901, .rd_ SactE A xs c (fun k => k < w0.heap.size)), (990, .lib pp), (100, X1), (101, Y1), (1003, .rd_ OpdE (fA1_0) (gsact xs (k : Int)).req.ops fc1_0 (fun k => k < w0.heap.size)), (1006, .rd_ ResE (fA1_1) (gsact xs (k : Int)).ans.results fc1_1 (fun k => k < w0.heap.size)), (6, .blk b6 (.cells #[.int .i64 (gsact xs (k : Int)).kind, .string (strOfNums (gsact xs (k : Int)).req.client), .int .i64 (gsact xs (k : Int)).req.num, .slice fA1_0 (gsact xs (k : Int)).req.ops.length fc1_0, .int .i64 (gsact xs (k : Int)).ans.outcome, .int .i64 (gsact xs (k : Int)).ans.err, .slice fA1_1 (gsact xs (k : Int)).ans.results.length fc1_1] 64 (0, 0))), (70, .row ResE 84 (.slice Ar70 rs.length cr70) rs (fun _ => False)), (11, .blk b11 (.cells #[.int .i64 (askA m (gsact xs (k : Int)).req).outcome, .int .i64 (askA m (gsact xs (k : Int)).req).err, .slice Ar70 rs.length cr70] 62 (0, 0))), (71, .rd_ ResE A71 (askA m (gsact xs (k : Int)).req).results c71 Y1.rd), (14, .blk b14 (.cells #[.int .i64 (askA m (gsact xs (k : Int)).req).outcome, .int .i64 (askA m (gsact xs (k : Int)).req).err, .slice A71 (askA m (gsact xs (k : Int)).req).results.length c71] 68 (0, 0)))]) (41) ?_ ?_
       ·exact ⟨0, (askA m (gsact xs (k : Int)).req).results, rfl, by omega, (askA_ok hq0_2 _).2, (((((((hF.bare.add hF 18 rfl).add hF 11 rfl).add hF 8 rfl).add hF 5 rfl).add hF 4 rfl).add hF 3 rfl).add hF 0 rfl), hH.sub _ (sub_cons (sub_cons (sub_cons (sub_cons (sub_cons (sub_cons (sub_cons (sub_cons (sub_cons (sub_cons (sub_cons (sub_nil _) 14 rfl) 71 rfl) 11 rfl) 70 rfl) 6 rfl) 1006 rfl) 1003 rfl) 101 rfl) 100 rfl) 990 rfl) 901 rfl)⟩
       ·rintro _ a w ⟨j, rs, rfl, hq3_0, hq3_1, hF, hH⟩
        refine wp_seq_k fun khK39 hK39 => ?_
        refine wp_seq_k fun khK40 hK40 => ?_
        refine wp_region_lit ?_
        refine l_at hF rfl rfl rfl (x_move (hF.tmp 18 rfl)) ?_; clear hF; intro a hF
        refine l_at hF rfl rfl rfl (x_faddr Tryd.underlying62 rfl ty60 (by decide) (hF.tmp 11 rfl) rfl) ?_; clear hF; intro a hF
        refine l_at hF rfl rfl rfl (x_load1 ty60 (hF.tmp 100 rfl) (blk_cell (hH.at 11 rfl) 2 rfl)) ?_; clear hF; intro a hF
        refine l_at hF rfl rfl rfl (x_len_slice Tryd.underlying60 (hF.tmp 101 rfl)) ?_; clear hF; intro a hF
        refine l_at hF rfl rfl rfl (x_lss (hF.tmp 99 rfl) (hF.tmp 102 rfl)) ?_; clear hF; intro a hF
        refine wpList_nil ?_
        refine hK40 _ _ ?_
        refine wp_cond_split (hF.tmp 103 rfl) (fun hc103 => ?_) (fun hc103 => ?_)
        ·have hk103_7 := hc103; try simp only [Bool.or_eq_true, Bool.and_eq_true, Bool.or_eq_false_iff, Bool.and_eq_false_iff, Bool.not_eq_true', Bool.not_eq_false', decide_eq_true_eq, decide_eq_false_iff_not, Bool.not_true, Bool.not_false] at hc103
         refine wp_skip ?_
         refine hK39 _ _ ?_
         refine wp_seq_k fun khK41 hK41 => ?_
         refine wp_block ?_
         refine wp_region_lit ?_
         refine l_at hF rfl rfl rfl (x_faddr Tryd.underlying62 rfl ty60 (by decide) (hF.tmp 11 rfl) rfl) ?_; clear hF; intro a hF
         refine l_at hF rfl rfl rfl (x_load1 ty60 (hF.tmp 106 rfl) (blk_cell (hH.at 11 rfl) 2 rfl)) ?_; clear hF; intro a hF
         refine l_at hF rfl rfl rfl (x_move (hF.tmp 18 rfl)) ?_; clear hF; intro a hF
         refine l_at hF rfl rfl rfl (x_buildS (cells := #[.bool false, .string (strOfNums []), .int .i64 77, .int .u64 0]) (places := #[(0, 1), (1, 1), (2, 1), (3, 1)]) Tryd.underlying84 ty84 (by kernel_rfl) (by simp only [List.map_toArray, List.map_cons, List.map_nil] <;> rfl) rfl) ?_; clear hF; intro a hF
         refine l_at hF rfl rfl rfl (x_iaddr_A Tryd.underlying60 ty84 (Row.rd (ok' := fun k_ => (fun _ => False) k_ ∨ (.slice Ar70 rs.length cr70 : Value).ownBlock = some k_) (hH.row 70 rfl) (fun _ hk_ _ => .inl hk_) (fun _ hk_ => .inr hk_)) (hF.tmp 107 rfl) (hF.tmp 108 rfl) (by omega) (by omega) _) ?_; clear hF; intro a hF
         refine wpList_plain rfl fun K hK => ?_
         refine w_storeEl 70 j 0 (x0 := gres rs (j : Int)) (resN 77) (fun _ => False) hH ty84 rfl (gres_some (i := (j : Int)) (by omega) (by omega)) (hF.tmp 110 rfl) (hF.tmp 109 rfl) rfl (by simp [Value.cells, Value.oneCell']) (by decide) (fun cs hcs => by have h_ := res_cells hcs; subst h_; exact res_mk (resN 77)) (fun _ h => h) (fun _ h => .inl h) ?_
         clear hH; intro w hH
         refine hK _ _ ?_; clear hK K
         have hH : Hp (fun _ => False) w0 w [(901, .rd_ SactE A xs c (fun k => k < w0.heap.size)), (990, .lib pp), (100, X1), (101, Y1), (1003, .rd_ OpdE (fA1_0) (gsact xs (k : Int)).req.ops fc1_0 (fun k => k < w0.heap.size)), (1006, .rd_ ResE (fA1_1) (gsact xs (k : Int)).ans.results fc1_1 (fun k => k < w0.heap.size)), (6, .blk b6 (.cells #[.int .i64 (gsact xs (k : Int)).kind, .string (strOfNums (gsact xs (k : Int)).req.client), .int .i64 (gsact xs (k : Int)).req.num, .slice fA1_0 (gsact xs (k : Int)).req.ops.length fc1_0, .int .i64 (gsact xs (k : Int)).ans.outcome, .int .i64 (gsact xs (k : Int)).ans.err, .slice fA1_1 (gsact xs (k : Int)).ans.results.length fc1_1] 64 (0, 0))), (70, .row ResE 84 (.slice Ar70 (rs.set j (resN 77)).length cr70) (rs.set j (resN 77)) (fun _ => False)), (11, .blk b11 (.cells #[.int .i64 (askA m (gsact xs (k : Int)).req).outcome, .int .i64 (askA m (gsact xs (k : Int)).req).err, .slice Ar70 (rs.set j (resN 77)).length cr70] 62 (0, 0))), (71, .rd_ ResE A71 (askA m (gsact xs (k : Int)).req).results c71 Y1.rd), (14, .blk b14 (.cells #[.int .i64 (askA m (gsact xs (k : Int)).req).outcome, .int .i64 (askA m (gsact xs (k : Int)).req).err, .slice A71 (askA m (gsact xs (k : Int)).req).results.length c71] 68 (0, 0)))] := by simp only [List.length_set]; exact hH.sub _ (sub_cons (sub_cons (sub_cons (sub_cons (sub_cons (sub_cons (sub_cons (sub_cons (sub_cons (sub_cons (sub_cons (sub_nil _) 14 rfl) 71 rfl) 11 rfl) 70 rfl) 6 rfl) 1006 rfl) 1003 rfl) 101 rfl) 100 rfl) 990 rfl) 901 rfl)
         refine wpList_nil ?_
         refine hK41 _ _ ?_
         refine wp_region_lit ?_
         refine l_at hF rfl rfl rfl (x_move (hF.tmp 18 rfl)) ?_; clear hF; intro a hF
         refine l_at hF rfl rfl rfl (x_add (hF.tmp 104 rfl) rfl (w64 (by omega) (by omega))) ?_; clear hF; intro a hF
         refine l_at hF rfl rfl rfl (x_assign (hF.tmp 105 rfl)) ?_; clear hF; intro a hF
         refine wpList_nil ?_
         exact ⟨_, by omega, ⟨j + 1, (rs.set j (resN 77)), rfl, by rw [List.length_set]; omega, by rw [List.length_set]; omega, (((((((hF.bare.add hF 18 rfl).add hF 11 rfl).add hF 8 rfl).add hF 5 rfl).add hF 4 rfl).add hF 3 rfl).add hF 0 rfl), hH.sub _ (sub_cons (sub_cons (sub_cons (sub_cons (sub_cons (sub_cons (sub_cons (sub_cons (sub_cons (sub_cons (sub_cons (sub_nil _) 14 rfl) 71 rfl) 11 rfl) 70 rfl) 6 rfl) 1006 rfl) 1003 rfl) 101 rfl) 100 rfl) 990 rfl) 901 rfl)⟩⟩
        ·have hk103_8 := hc103; try simp only [Bool.or_eq_true, Bool.and_eq_true, Bool.or_eq_false_iff, Bool.and_eq_false_iff, Bool.not_eq_true', Bool.not_eq_false', decide_eq_true_eq, decide_eq_false_iff_not, Bool.not_true, Bool.not_false] at hc103
         refine wp_exit ?_
         exact hJ65 _ _ X1 (askM m (gsact xs (k : Int)).req) Y1 l1 hX1 (ask_ok hq0_2 (gsact xs (k : Int)).req) hY1 hR1 (by omega) (((((hF.bare.add hF 8 rfl).add hF 5 rfl).add hF 4 rfl).add hF 3 rfl).add hF 0 rfl) (hH.sub _ (sub_cons (sub_cons (sub_cons (sub_cons (sub_cons (sub_cons (sub_cons (sub_nil _) 6 rfl) 1006 rfl) 1003 rfl) 101 rfl) 100 rfl) 990 rfl) 901 rfl))
      ·have hk65_9 := hc65; try simp only [Bool.or_eq_true, Bool.and_eq_true, Bool.or_eq_false_iff, Bool.and_eq_false_iff, Bool.not_eq_true', Bool.not_eq_false', decide_eq_true_eq, decide_eq_false_iff_not, Bool.not_true, Bool.not_false] at hc65
       refine wp_seq_k fun khK42 hK42 => ?_
       refine wp_seq_k fun khK43 hK43 => ?_
       refine wp_region_lit ?_
       refine l_at hF rfl rfl rfl (x_eql (hF.tmp 64 rfl) rfl) ?_; clear hF; intro a hF
       refine l_at hF rfl rfl rfl (x_assign (hF.tmp 112 rfl)) ?_; clear hF; intro a hF
       refine wpList_nil ?_
       refine hK43 _ _ ?_
       refine wp_cond_split (hF.tmp 111 rfl) (fun hc111 => ?_) (fun hc111 => ?_)
       ·have hk111_10 := hc111; try simp only [Bool.or_eq_true, Bool.and_eq_true, Bool.or_eq_false_iff, Bool.and_eq_false_iff, Bool.not_eq_true', Bool.not_eq_false', decide_eq_true_eq, decide_eq_false_iff_not, Bool.not_true, Bool.not_false] at hc111
        refine wp_skip ?_
        refine hK42 _ _ ?_
        refine wp_cond_true ((hF.tmp 111 rfl).trans (by rw [hk111_10])) ?_
        refine wp_seq_k fun khK44 hK44 => ?_
        refine wp_region_lit ?_
        refine l_at hF rfl rfl rfl (x_faddr Tryd.underlying64 rfl ty62 (by decide) (hF.tmp 6 rfl) rfl) ?_; clear hF; intro a hF
        refine l_at hF rfl rfl rfl (x_loadn (cs := #[.int .i64 (gsact xs (k : Int)).ans.outcome, .int .i64 (gsact xs (k : Int)).ans.err, .slice fA1_1 (gsact xs (k : Int)).ans.results.length fc1_1]) ty62 (hF.tmp 114 rfl) rfl (blk_sub (hH.at 6 rfl) 4 3 rfl)) ?_; clear hF; intro a hF
        refine wpList_plain rfl fun K hK => ?_
        refine w_alloc 19 hF hH rfl ty62 ?_
        clear hF hH; intro a w b19 hF hH
        refine hK _ _ ?_; clear hK K
        refine wpList_plain rfl fun K hK => ?_
        refine w_storeA 19 hH ty62 rfl (hF.tmp 19 rfl) (hF.tmp 115 rfl) rfl (by simp [Value.cells, Value.oneCell']) rfl ?_
        clear hH; intro w hH
        refine hK _ _ ?_; clear hK K
        refine wpList_nil ?_
        refine hK44 _ _ ?_
        refine wp_seq_k fun khK45 hK45 => ?_
        refine wp_region_lit ?_
        refine wpList_plain rfl fun K hK => ?_
        refine w_lit0 ResE 116 hF hH rfl Tryd.underlying60 ty84 ?_
        clear hF hH; intro a w b116 hF hH
        refine hK _ _ ?_; clear hK K
        refine l_at hF rfl rfl rfl (x_faddr Tryd.underlying64 rfl ty62 (by decide) (hF.tmp 6 rfl) rfl) ?_; clear hF; intro a hF
        refine l_at hF rfl rfl rfl (x_faddr Tryd.underlying62 rfl ty60 (by decide) (hF.tmp 117 rfl) rfl) ?_; clear hF; intro a hF
        refine l_at hF rfl rfl rfl (x_load1 ty60 (hF.tmp 118 rfl) (blk_cell (hH.at 6 rfl) 6 rfl)) ?_; clear hF; intro a hF
        refine wpList_plain rfl fun K hK => ?_
        refine w_append 116 1006 (xs := ([])) (ys := ((gsact xs (k : Int)).ans.results)) hF hH rfl Tryd.underlying60 ty84 rfl rfl rfl rfl ((hH.rd 1006 rfl)) (by intro k_ hk_; exact .inr hk_) (hF.tmp 116 rfl) (hF.tmp 119 rfl) (by simp only [List.length_nil]; omega) (by simp only [List.length_nil, maxLen]; omega) (fun _ => False) (fun w' v' h => res_any h) (fun k_ hk_ => hk_.elim) ?_
        clear hF hH; intro a w v120 hF hH
        refine hK _ _ ?_; clear hK K
        obtain ⟨A120, c120, rfl⟩ := (hH.row 116 rfl).form
        rw [List.nil_append] at hH hF
        refine l_at hF rfl rfl rfl (x_faddr Tryd.underlying62 rfl ty60 (by decide) (hF.tmp 19 rfl) rfl) ?_; clear hF; intro a hF
        refine wpList_plain rfl fun K hK => ?_
        refine w_store 19 hH ty60 rfl (hF.tmp 121 rfl) (hF.tmp 120 rfl) rfl (one1 rfl rfl) (by first | decide | exact Nat.le_of_ble_eq_true rfl) ?_
        clear hH; intro w hH
        refine hK _ _ ?_; clear hK K
        refine wpList_nil ?_
        refine hK45 _ _ ?_
        refine wp_seq_k fun khK46 hK46 => ?_
        refine r_start [(6, .blk b6 (.cells #[.int .i64 (gsact xs (k : Int)).kind, .string (strOfNums (gsact xs (k : Int)).req.client), .int .i64 (gsact xs (k : Int)).req.num, .slice fA1_0 (gsact xs (k : Int)).req.ops.length fc1_0, .int .i64 (gsact xs (k : Int)).ans.outcome, .int .i64 (gsact xs (k : Int)).ans.err, .slice fA1_1 (gsact xs (k : Int)).ans.results.length fc1_1] 64 (0, 0))), (19, .blk b19 (.cells #[.int .i64 (gsact xs (k : Int)).ans.outcome, .int .i64 (gsact xs (k : Int)).ans.err, .slice A120 (gsact xs (k : Int)).ans.results.length c120] 62 (0, 0)))] (by kernel_rfl) hH fun hH => ?_
        have hS : SL [(6, .blk b6 (.cells #[.int .i64 (gsact xs (k : Int)).kind, .string (strOfNums (gsact xs (k : Int)).req.client), .int .i64 (gsact xs (k : Int)).req.num, .slice fA1_0 (gsact xs (k : Int)).req.ops.length fc1_0, .int .i64 (gsact xs (k : Int)).ans.outcome, .int .i64 (gsact xs (k : Int)).ans.err, .slice fA1_1 (gsact xs (k : Int)).ans.results.length fc1_1] 64 (0, 0))), (19, .blk b19 (.cells #[.int .i64 (gsact xs (k : Int)).ans.outcome, .int .i64 (gsact xs (k : Int)).ans.err, .slice A120 (gsact xs (k : Int)).ans.results.length c120] 62 (0, 0)))] _ := SL.of hH (sub_cons (sub_cons (sub_nil _) 19 rfl) 6 rfl)
        refine r_take 0 hF rfl rfl rfl (by kernel_rfl) (by kernel_rfl) (by kernel_rfl) (fun _ _ _ h => h) rfl hS (fun w hS => x_move (hF.tmp 3 rfl)) rfl ?_; clear hF; intro a hF
        refine r_take 1 hF rfl rfl rfl (by kernel_rfl) (by kernel_rfl) (by kernel_rfl) (fun _ _ _ h => h) rfl hS (fun w hS => x_faddr Tryd.underlying64 rfl ty45 (by decide) (hF.tmp 6 rfl) rfl) rfl ?_; clear hF; intro a hF
        refine r_take 2 hF rfl rfl rfl (by kernel_rfl) (by kernel_rfl) (by kernel_rfl) (fun _ _ _ h => h) rfl hS (fun w hS => x_faddr Tryd.underlying45 rfl ty9 (by decide) (hF.tmp 123 rfl) rfl) rfl ?_; clear hF; intro a hF
        refine r_take 3 hF rfl rfl rfl (by kernel_rfl) (by kernel_rfl) (by kernel_rfl) (fun _ _ _ h => h) rfl hS (fun w hS => x_load1 ty9 (hF.tmp 124 rfl) (blk_cell (SL.at_ hS 6 rfl) 1 rfl)) rfl ?_; clear hF; intro a hF
        refine r_take 4 hF rfl rfl rfl (by kernel_rfl) (by kernel_rfl) (by kernel_rfl) (fun _ _ _ h => h) rfl hS (fun w hS => x_move (hF.tmp 9 rfl)) rfl ?_; clear hF; intro a hF
        refine r_take 5 hF rfl rfl rfl (by kernel_rfl) (by kernel_rfl) (by kernel_rfl) (fun _ _ _ h => h) rfl hS (fun w hS => x_loadn ty62 (hF.tmp 19 rfl) rfl (blk_whole (SL.at_ hS 19 rfl))) rfl ?_; clear hF; intro a hF
        refine r_take 7 hF rfl rfl rfl (by kernel_rfl) (by kernel_rfl) (by kernel_rfl) (fun _ _ _ h => h) rfl hS (fun w hS => x_move (hF.tmp 4 rfl)) rfl ?_; clear hF; intro a hF
        refine r_take 8 hF rfl rfl rfl (by kernel_rfl) (by kernel_rfl) (by kernel_rfl) (fun _ _ _ h => h) rfl hS (fun w hS => x_faddr Tryd.underlying64 rfl ty45 (by decide) (hF.tmp 6 rfl) rfl) rfl ?_; clear hF; intro a hF
        refine r_take 9 hF rfl rfl rfl (by kernel_rfl) (by kernel_rfl) (by kernel_rfl) (fun _ _ _ h => h) rfl hS (fun w hS => x_faddr Tryd.underlying45 rfl ty9 (by decide) (hF.tmp 130 rfl) rfl) rfl ?_; clear hF; intro a hF
        refine r_take 10 hF rfl rfl rfl (by kernel_rfl) (by kernel_rfl) (by kernel_rfl) (fun _ _ _ h => h) rfl hS (fun w hS => x_load1 ty9 (hF.tmp 131 rfl) (blk_cell (SL.at_ hS 6 rfl) 1 rfl)) rfl ?_; clear hF; intro a hF
        refine r_take 11 hF rfl rfl rfl (by kernel_rfl) (by kernel_rfl) (by kernel_rfl) (fun _ _ _ h => h) rfl hS (fun w hS => x_move (hF.tmp 9 rfl)) rfl ?_; clear hF; intro a hF
        refine r_take 12 hF rfl rfl rfl (by kernel_rfl) (by kernel_rfl) (by kernel_rfl) (fun _ _ _ h => h) rfl hS (fun w hS => x_faddr Tryd.underlying64 rfl ty62 (by decide) (hF.tmp 6 rfl) rfl) rfl ?_; clear hF; intro a hF
        refine r_take 13 hF rfl rfl rfl (by kernel_rfl) (by kernel_rfl) (by kernel_rfl) (fun _ _ _ h => h) rfl hS (fun w hS => x_loadn (cs := #[.int .i64 (gsact xs (k : Int)).ans.outcome, .int .i64 (gsact xs (k : Int)).ans.err, .slice fA1_1 (gsact xs (k : Int)).ans.results.length fc1_1]) ty62 (hF.tmp 134 rfl) rfl (blk_sub (SL.at_ hS 6 rfl) 4 3 rfl)) rfl ?_; clear hF; intro a hF
        refine r_do 6 rfl (by kernel_rfl) rfl rfl ?_
        refine w_call hF (x_enter Tryd.func30 (by kernel_rfl) rfl (by simp only [List.map_toArray, List.map_cons, List.map_nil, hF.tmp 122 rfl, hF.tmp 125 rfl, hF.tmp 126 rfl, hF.tmp 127 rfl] <;> rfl)) (finish_calls (y := (gsact xs (k : Int)).ans) _ hq0_1 (hH.okX 100 rfl) hq0_2 (strOfNums (gsact xs (k : Int)).req.client) nn (Row.rd (ok' := fun k_ => (fun _ => False) k_ ∨ (.slice A120 (gsact xs (k : Int)).ans.results.length c120 : Value).ownBlock = some k_) (hH.row 116 rfl) (fun _ hk_ _ => .inl hk_) (fun _ hk_ => .inr hk_)) ⟨hbx.ans, hf40⟩ (fun k h => hH.inb 116 _ rfl k (by rcases h with h | h; exact h.elim; exact .inl h)) (fun k h hx => hH.sep 100 116 _ _ (by decide) rfl rfl k hx (by rcases h with h | h; exact h.elim; exact .inl h))) rfl rfl ?_
        rintro _ w ⟨X1, rfl, hX1, hg_⟩; refine ⟨_, rfl, ?_⟩; clear hF; intro a hF; have hH := hH.grew 100 rfl hg_ (fun k hk => hk.elim)
        clear hS; have hS : SL _ _ := SL.of hH (sub_cons (sub_cons (sub_nil _) 19 rfl) 6 rfl); refine ⟨hS, ?_⟩
        refine r_do 14 rfl (by kernel_rfl) rfl rfl ?_
        refine w_call hF (x_enter Tryd.func29 (by kernel_rfl) rfl (by simp only [List.map_toArray, List.map_cons, List.map_nil, hF.tmp 135 rfl] <;> rfl)) (answer_calls (y := (gsact xs (k : Int)).ans) _ ((hH.rd 1006 rfl))) rfl rfl ?_
        rintro _ w ⟨rfl, hm_⟩; refine ⟨_, rfl, ?_⟩; clear hF; intro a hF; have hH := hH.same hm_
        clear hS; have hS : SL _ _ := SL.of hH (sub_cons (sub_cons (sub_nil _) 19 rfl) 6 rfl); refine ⟨hS, ?_⟩
        refine r_do 15 rfl (by kernel_rfl) rfl rfl ?_
        refine w_call hF (x_enter Tryd.func34 (by kernel_rfl) rfl (by simp only [List.map_toArray, List.map_cons, List.map_nil, hF.tmp 129 rfl, hF.tmp 132 rfl, hF.tmp 133 rfl, hF.tmp 136 rfl] <;> rfl)) (kfin_calls (y := (gsact xs (k : Int)).ans) _ hq0_3 (hH.okX 101 rfl) hq0_4 (by omega) hbx.req.client nn ((hH.rd 1006 rfl)) (fun k h => hH.inb 1006 _ rfl k (.inr h)) (fun k h hx => hH.sep 101 1006 _ _ (by decide) rfl rfl k hx (.inr h))) rfl rfl ?_
        rintro _ w ⟨l1, Y1, rfl, hY1, hR1, hl1, hg_⟩; refine ⟨_, rfl, ?_⟩; clear hF; intro a hF; have hH := hH.grew 101 rfl hg_ (fun k hk => ⟨1006, _, rfl, hk⟩)
        clear hS; have hS : SL _ _ := SL.of hH (sub_cons (sub_cons (sub_nil _) 19 rfl) 6 rfl); refine ⟨hS, ?_⟩
        refine r_take 16 hF rfl rfl rfl (by kernel_rfl) (by kernel_rfl) (by kernel_rfl) (fun _ _ _ h => h) rfl hS (fun w hS => x_eql (hF.tmp 128 rfl) (hF.tmp 137 rfl)) rfl ?_; clear hF; intro a hF
        rw [decide_eq_true (rfl : (finE m (strOfNums (gsact xs (k : Int)).req.client) nn) = (finE m (strOfNums (gsact xs (k : Int)).req.client) nn))] at hF
        refine r_take 17 hF rfl rfl rfl (by kernel_rfl) (by kernel_rfl) (by kernel_rfl) (fun _ _ _ h => h) rfl hS (fun w hS => x_assign (hF.tmp 138 rfl)) rfl ?_; clear hF; intro a hF
        refine r_end (by kernel_rfl) ?_; clear hS
        refine hK46 _ _ ?_
        refine wp_seq_k fun khK47 hK47 => ?_
        refine wp_region_lit ?_
        refine l_at hF rfl rfl rfl (x_assign rfl) ?_; clear hF; intro a hF
        refine wpList_nil ?_
        refine hK47 _ _ ?_
        refine wp_block ?_
        refine wp_loop_ghost (fun n_ a w => ∃ j : Nat, ∃ rs : List ResultD, n_ = 41 - j ∧ (j ≤ rs.length) ∧ (rs.length ≤ 40) ∧ Fr 208 a [(0, .slice A xs.length c), (3, .pointer (some ⟨bt, 0, none⟩)), (4, .pointer (some ⟨b28, 0, none⟩)), (5, .int .i64 (k : Int)), (8, .bool true), (19, .pointer (some ⟨b19, 0, none⟩)), (20, .int .i64 (j : Int))] ∧ Hp (fun _ => False) w0 w [(901, .rd_ SactE A xs c (fun k => k < w0.heap.size)), (990, .lib pp), (100, X1), (101, Y1), (1003, .rd_ OpdE (fA1_0) (gsact xs (k : Int)).req.ops fc1_0 (fun k => k < w0.heap.size)), (1006, .rd_ ResE (fA1_1) (gsact xs (k : Int)).ans.results fc1_1 (fun k => k < w0.heap.size)), (6, .blk b6 (.cells #[.int .i64 (gsact xs (k : Int)).kind, .string (strOfNums (gsact xs (k : Int)).req.client), .int .i64 (gsact xs (k : Int)).req.num, .slice fA1_0 (gsact xs (k : Int)).req.ops.length fc1_0, .int .i64 (gsact xs (k : Int)).ans.outcome, .int .i64 (gsact xs (k : Int)).ans.err, .slice fA1_1 (gsact xs (k : Int)).ans.results.length fc1_1] 64 (0, 0))), (19, .blk b19 (.cells #[.int .i64 (gsact xs (k : Int)).ans.outcome, .int .i64 (gsact xs (k : Int)).ans.err, .slice A120 rs.length c120] 62 (0, 0))), (116, .row ResE 84 (.slice A120 rs.length c120) rs (fun _ => False))]) (41) ?_ ?_
        ·exact ⟨0, (gsact xs (k : Int)).ans.results, rfl, by omega, hf40, (((((((hF.bare.add hF 20 rfl).add hF 19 rfl).add hF 8 rfl).add hF 5 rfl).add hF 4 rfl).add hF 3 rfl).add hF 0 rfl), hH.sub _ (sub_cons (sub_cons (sub_cons (sub_cons (sub_cons (sub_cons (sub_cons (sub_cons (sub_cons (sub_nil _) 116 rfl) 19 rfl) 6 rfl) 1006 rfl) 1003 rfl) 101 rfl) 100 rfl) 990 rfl) 901 rfl)⟩
        ·rintro _ a w ⟨j, rs, rfl, hq5_0, hq5_1, hF, hH⟩
         refine wp_seq_k fun khK48 hK48 => ?_
         refine wp_seq_k fun khK49 hK49 => ?_
         refine wp_region_lit ?_
         refine l_at hF rfl rfl rfl (x_move (hF.tmp 20 rfl)) ?_; clear hF; intro a hF
         refine l_at hF rfl rfl rfl (x_faddr Tryd.underlying62 rfl ty60 (by decide) (hF.tmp 19 rfl) rfl) ?_; clear hF; intro a hF
         refine l_at hF rfl rfl rfl (x_load1 ty60 (hF.tmp 140 rfl) (blk_cell (hH.at 19 rfl) 2 rfl)) ?_; clear hF; intro a hF
         refine l_at hF rfl rfl rfl (x_len_slice Tryd.underlying60 (hF.tmp 141 rfl)) ?_; clear hF; intro a hF
         refine l_at hF rfl rfl rfl (x_lss (hF.tmp 139 rfl) (hF.tmp 142 rfl)) ?_; clear hF; intro a hF
         refine wpList_nil ?_
         refine hK49 _ _ ?_
         refine wp_cond_split (hF.tmp 143 rfl) (fun hc143 => ?_) (fun hc143 => ?_)
         ·have hk143_11 := hc143; try simp only [Bool.or_eq_true, Bool.and_eq_true, Bool.or_eq_false_iff, Bool.and_eq_false_iff, Bool.not_eq_true', Bool.not_eq_false', decide_eq_true_eq, decide_eq_false_iff_not, Bool.not_true, Bool.not_false] at hc143
          refine wp_skip ?_
          refine hK48 _ _ ?_
          refine wp_seq_k fun khK50 hK50 => ?_
          refine wp_block ?_
          refine wp_region_lit ?_
          refine l_at hF rfl rfl rfl (x_faddr Tryd.underlying62 rfl ty60 (by decide) (hF.tmp 19 rfl) rfl) ?_; clear hF; intro a hF
          refine l_at hF rfl rfl rfl (x_load1 ty60 (hF.tmp 146 rfl) (blk_cell (hH.at 19 rfl) 2 rfl)) ?_; clear hF; intro a hF
          refine l_at hF rfl rfl rfl (x_move (hF.tmp 20 rfl)) ?_; clear hF; intro a hF
          refine l_at hF rfl rfl rfl (x_buildS (cells := #[.bool false, .string (strOfNums []), .int .i64 99, .int .u64 0]) (places := #[(0, 1), (1, 1), (2, 1), (3, 1)]) Tryd.underlying84 ty84 (by kernel_rfl) (by simp only [List.map_toArray, List.map_cons, List.map_nil] <;> rfl) rfl) ?_; clear hF; intro a hF
          refine l_at hF rfl rfl rfl (x_iaddr_A Tryd.underlying60 ty84 (Row.rd (ok' := fun k_ => (fun _ => False) k_ ∨ (.slice A120 rs.length c120 : Value).ownBlock = some k_) (hH.row 116 rfl) (fun _ hk_ _ => .inl hk_) (fun _ hk_ => .inr hk_)) (hF.tmp 147 rfl) (hF.tmp 148 rfl) (by omega) (by omega) _) ?_; clear hF; intro a hF
          refine wpList_plain rfl fun K hK => ?_
          refine w_storeEl 116 j 0 (x0 := gres rs (j : Int)) (resN 99) (fun _ => False) hH ty84 rfl (gres_some (i := (j : Int)) (by omega) (by omega)) (hF.tmp 150 rfl) (hF.tmp 149 rfl) rfl (by simp [Value.cells, Value.oneCell']) (by decide) (fun cs hcs => by have h_ := res_cells hcs; subst h_; exact res_mk (resN 99)) (fun _ h => h) (fun _ h => .inl h) ?_
          clear hH; intro w hH
          refine hK _ _ ?_; clear hK K
          have hH : Hp (fun _ => False) w0 w [(901, .rd_ SactE A xs c (fun k => k < w0.heap.size)), (990, .lib pp), (100, X1), (101, Y1), (1003, .rd_ OpdE (fA1_0) (gsact xs (k : Int)).req.ops fc1_0 (fun k => k < w0.heap.size)), (1006, .rd_ ResE (fA1_1) (gsact xs (k : Int)).ans.results fc1_1 (fun k => k < w0.heap.size)), (6, .blk b6 (.cells #[.int .i64 (gsact xs (k : Int)).kind, .string (strOfNums (gsact xs (k : Int)).req.client), .int .i64 (gsact xs (k : Int)).req.num, .slice fA1_0 (gsact xs (k : Int)).req.ops.length fc1_0, .int .i64 (gsact xs (k : Int)).ans.outcome, .int .i64 (gsact xs (k : Int)).ans.err, .slice fA1_1 (gsact xs (k : Int)).ans.results.length fc1_1] 64 (0, 0))), (19, .blk b19 (.cells #[.int .i64 (gsact xs (k : Int)).ans.outcome, .int .i64 (gsact xs (k : Int)).ans.err, .slice A120 (rs.set j (resN 99)).length c120] 62 (0, 0))), (116, .row ResE 84 (.slice A120 (rs.set j (resN 99)).length c120) (rs.set j (resN 99)) (fun _ => False))] := by simp only [List.length_set]; exact hH.sub _ (sub_cons (sub_cons (sub_cons (sub_cons (sub_cons (sub_cons (sub_cons (sub_cons (sub_cons (sub_nil _) 116 rfl) 19 rfl) 6 rfl) 1006 rfl) 1003 rfl) 101 rfl) 100 rfl) 990 rfl) 901 rfl)
          refine wpList_nil ?_
          refine hK50 _ _ ?_
          refine wp_region_lit ?_
          refine l_at hF rfl rfl rfl (x_move (hF.tmp 20 rfl)) ?_; clear hF; intro a hF
          refine l_at hF rfl rfl rfl (x_add (hF.tmp 144 rfl) rfl (w64 (by omega) (by omega))) ?_; clear hF; intro a hF
          refine l_at hF rfl rfl rfl (x_assign (hF.tmp 145 rfl)) ?_; clear hF; intro a hF
          refine wpList_nil ?_
          exact ⟨_, by omega, ⟨j + 1, (rs.set j (resN 99)), rfl, by rw [List.length_set]; omega, by rw [List.length_set]; omega, (((((((hF.bare.add hF 20 rfl).add hF 19 rfl).add hF 8 rfl).add hF 5 rfl).add hF 4 rfl).add hF 3 rfl).add hF 0 rfl), hH.sub _ (sub_cons (sub_cons (sub_cons (sub_cons (sub_cons (sub_cons (sub_cons (sub_cons (sub_cons (sub_nil _) 116 rfl) 19 rfl) 6 rfl) 1006 rfl) 1003 rfl) 101 rfl) 100 rfl) 990 rfl) 901 rfl)⟩⟩
         ·have hk143_12 := hc143; try simp only [Bool.or_eq_true, Bool.and_eq_true, Bool.or_eq_false_iff, Bool.and_eq_false_iff, Bool.not_eq_true', Bool.not_eq_false', decide_eq_true_eq, decide_eq_false_iff_not, Bool.not_true, Bool.not_false] at hc143
          refine wp_exit ?_
          exact hJ65 _ _ X1 (finM m (strOfNums (gsact xs (k : Int)).req.client) nn (gsact xs (k : Int)).ans) Y1 l1 hX1 (fin_ok hq0_2 _ _ ⟨hbx.ans, hf40⟩) hY1 hR1 (by omega) (((((hF.bare.add hF 8 rfl).add hF 5 rfl).add hF 4 rfl).add hF 3 rfl).add hF 0 rfl) (hH.sub _ (sub_cons (sub_cons (sub_cons (sub_cons (sub_cons (sub_cons (sub_cons (sub_nil _) 6 rfl) 1006 rfl) 1003 rfl) 101 rfl) 100 rfl) 990 rfl) 901 rfl))
       ·have hk111_13 := hc111; try simp only [Bool.or_eq_true, Bool.and_eq_true, Bool.or_eq_false_iff, Bool.and_eq_false_iff, Bool.not_eq_true', Bool.not_eq_false', decide_eq_true_eq, decide_eq_false_iff_not, Bool.not_true, Bool.not_false] at hc111
        refine wp_region_lit ?_
        refine l_at hF rfl rfl rfl (x_eql (hF.tmp 64 rfl) rfl) ?_; clear hF; intro a hF
        refine l_at hF rfl rfl rfl (x_assign (hF.tmp 113 rfl)) ?_; clear hF; intro a hF
        refine wpList_nil ?_
        refine hK42 _ _ ?_
        refine wp_cond_split (hF.tmp 111 rfl) (fun hc111 => ?_) (fun hc111 => ?_)
        ·have hk111_14 := hc111; try simp only [Bool.or_eq_true, Bool.and_eq_true, Bool.or_eq_false_iff, Bool.and_eq_false_iff, Bool.not_eq_true', Bool.not_eq_false', decide_eq_true_eq, decide_eq_false_iff_not, Bool.not_true, Bool.not_false] at hc111
         refine wp_seq_k fun khK51 hK51 => ?_
         refine wp_region_lit ?_
         refine l_at hF rfl rfl rfl (x_faddr Tryd.underlying64 rfl ty62 (by decide) (hF.tmp 6 rfl) rfl) ?_; clear hF; intro a hF
         refine l_at hF rfl rfl rfl (x_loadn (cs := #[.int .i64 (gsact xs (k : Int)).ans.outcome, .int .i64 (gsact xs (k : Int)).ans.err, .slice fA1_1 (gsact xs (k : Int)).ans.results.length fc1_1]) ty62 (hF.tmp 114 rfl) rfl (blk_sub (hH.at 6 rfl) 4 3 rfl)) ?_; clear hF; intro a hF
         refine wpList_plain rfl fun K hK => ?_
         refine w_alloc 19 hF hH rfl ty62 ?_
         clear hF hH; intro a w b19 hF hH
         refine hK _ _ ?_; clear hK K
         refine wpList_plain rfl fun K hK => ?_
         refine w_storeA 19 hH ty62 rfl (hF.tmp 19 rfl) (hF.tmp 115 rfl) rfl (by simp [Value.cells, Value.oneCell']) rfl ?_
         clear hH; intro w hH
         refine hK _ _ ?_; clear hK K
         refine wpList_nil ?_
         refine hK51 _ _ ?_
         refine wp_seq_k fun khK52 hK52 => ?_
         refine wp_region_lit ?_
         refine wpList_plain rfl fun K hK => ?_
         refine w_lit0 ResE 116 hF hH rfl Tryd.underlying60 ty84 ?_
         clear hF hH; intro a w b116 hF hH
         refine hK _ _ ?_; clear hK K
         refine l_at hF rfl rfl rfl (x_faddr Tryd.underlying64 rfl ty62 (by decide) (hF.tmp 6 rfl) rfl) ?_; clear hF; intro a hF
         refine l_at hF rfl rfl rfl (x_faddr Tryd.underlying62 rfl ty60 (by decide) (hF.tmp 117 rfl) rfl) ?_; clear hF; intro a hF
         refine l_at hF rfl rfl rfl (x_load1 ty60 (hF.tmp 118 rfl) (blk_cell (hH.at 6 rfl) 6 rfl)) ?_; clear hF; intro a hF
         refine wpList_plain rfl fun K hK => ?_
         refine w_append 116 1006 (xs := ([])) (ys := ((gsact xs (k : Int)).ans.results)) hF hH rfl Tryd.underlying60 ty84 rfl rfl rfl rfl ((hH.rd 1006 rfl)) (by intro k_ hk_; exact .inr hk_) (hF.tmp 116 rfl) (hF.tmp 119 rfl) (by simp only [List.length_nil]; omega) (by simp only [List.length_nil, maxLen]; omega) (fun _ => False) (fun w' v' h => res_any h) (fun k_ hk_ => hk_.elim) ?_
         clear hF hH; intro a w v120 hF hH
         refine hK _ _ ?_; clear hK K
         obtain ⟨A120, c120, rfl⟩ := (hH.row 116 rfl).form
         rw [List.nil_append] at hH hF
         refine l_at hF rfl rfl rfl (x_faddr Tryd.underlying62 rfl ty60 (by decide) (hF.tmp 19 rfl) rfl) ?_; clear hF; intro a hF
         refine wpList_plain rfl fun K hK => ?_
         refine w_store 19 hH ty60 rfl (hF.tmp 121 rfl) (hF.tmp 120 rfl) rfl (one1 rfl rfl) (by first | decide | exact Nat.le_of_ble_eq_true rfl) ?_
         clear hH; intro w hH
         refine hK _ _ ?_; clear hK K
         refine wpList_nil ?_
         refine hK52 _ _ ?_
         refine wp_seq_k fun khK53 hK53 => ?_
         refine r_start [(6, .blk b6 (.cells #[.int .i64 (gsact xs (k : Int)).kind, .string (strOfNums (gsact xs (k : Int)).req.client), .int .i64 (gsact xs (k : Int)).req.num, .slice fA1_0 (gsact xs (k : Int)).req.ops.length fc1_0, .int .i64 (gsact xs (k : Int)).ans.outcome, .int .i64 (gsact xs (k : Int)).ans.err, .slice fA1_1 (gsact xs (k : Int)).ans.results.length fc1_1] 64 (0, 0))), (19, .blk b19 (.cells #[.int .i64 (gsact xs (k : Int)).ans.outcome, .int .i64 (gsact xs (k : Int)).ans.err, .slice A120 (gsact xs (k : Int)).ans.results.length c120] 62 (0, 0)))] (by kernel_rfl) hH fun hH => ?_
         have hS : SL [(6, .blk b6 (.cells #[.int .i64 (gsact xs (k : Int)).kind, .string (strOfNums (gsact xs (k : Int)).req.client), .int .i64 (gsact xs (k : Int)).req.num, .slice fA1_0 (gsact xs (k : Int)).req.ops.length fc1_0, .int .i64 (gsact xs (k : Int)).ans.outcome, .int .i64 (gsact xs (k : Int)).ans.err, .slice fA1_1 (gsact xs (k : Int)).ans.results.length fc1_1] 64 (0, 0))), (19, .blk b19 (.cells #[.int .i64 (gsact xs (k : Int)).ans.outcome, .int .i64 (gsact xs (k : Int)).ans.err, .slice A120 (gsact xs (k : Int)).ans.results.length c120] 62 (0, 0)))] _ := SL.of hH (sub_cons (sub_cons (sub_nil _) 19 rfl) 6 rfl)
         refine r_take 0 hF rfl rfl rfl (by kernel_rfl) (by kernel_rfl) (by kernel_rfl) (fun _ _ _ h => h) rfl hS (fun w hS => x_move (hF.tmp 3 rfl)) rfl ?_; clear hF; intro a hF
         refine r_take 1 hF rfl rfl rfl (by kernel_rfl) (by kernel_rfl) (by kernel_rfl) (fun _ _ _ h => h) rfl hS (fun w hS => x_faddr Tryd.underlying64 rfl ty45 (by decide) (hF.tmp 6 rfl) rfl) rfl ?_; clear hF; intro a hF
         refine r_take 2 hF rfl rfl rfl (by kernel_rfl) (by kernel_rfl) (by kernel_rfl) (fun _ _ _ h => h) rfl hS (fun w hS => x_faddr Tryd.underlying45 rfl ty9 (by decide) (hF.tmp 123 rfl) rfl) rfl ?_; clear hF; intro a hF
         refine r_take 3 hF rfl rfl rfl (by kernel_rfl) (by kernel_rfl) (by kernel_rfl) (fun _ _ _ h => h) rfl hS (fun w hS => x_load1 ty9 (hF.tmp 124 rfl) (blk_cell (SL.at_ hS 6 rfl) 1 rfl)) rfl ?_; clear hF; intro a hF
         refine r_take 4 hF rfl rfl rfl (by kernel_rfl) (by kernel_rfl) (by kernel_rfl) (fun _ _ _ h => h) rfl hS (fun w hS => x_move (hF.tmp 9 rfl)) rfl ?_; clear hF; intro a hF
         refine r_take 5 hF rfl rfl rfl (by kernel_rfl) (by kernel_rfl) (by kernel_rfl) (fun _ _ _ h => h) rfl hS (fun w hS => x_loadn ty62 (hF.tmp 19 rfl) rfl (blk_whole (SL.at_ hS 19 rfl))) rfl ?_; clear hF; intro a hF
         refine r_take 7 hF rfl rfl rfl (by kernel_rfl) (by kernel_rfl) (by kernel_rfl) (fun _ _ _ h => h) rfl hS (fun w hS => x_move (hF.tmp 4 rfl)) rfl ?_; clear hF; intro a hF
         refine r_take 8 hF rfl rfl rfl (by kernel_rfl) (by kernel_rfl) (by kernel_rfl) (fun _ _ _ h => h) rfl hS (fun w hS => x_faddr Tryd.underlying64 rfl ty45 (by decide) (hF.tmp 6 rfl) rfl) rfl ?_; clear hF; intro a hF
         refine r_take 9 hF rfl rfl rfl (by kernel_rfl) (by kernel_rfl) (by kernel_rfl) (fun _ _ _ h => h) rfl hS (fun w hS => x_faddr Tryd.underlying45 rfl ty9 (by decide) (hF.tmp 130 rfl) rfl) rfl ?_; clear hF; intro a hF
         refine r_take 10 hF rfl rfl rfl (by kernel_rfl) (by kernel_rfl) (by kernel_rfl) (fun _ _ _ h => h) rfl hS (fun w hS => x_load1 ty9 (hF.tmp 131 rfl) (blk_cell (SL.at_ hS 6 rfl) 1 rfl)) rfl ?_; clear hF; intro a hF
         refine r_take 11 hF rfl rfl rfl (by kernel_rfl) (by kernel_rfl) (by kernel_rfl) (fun _ _ _ h => h) rfl hS (fun w hS => x_move (hF.tmp 9 rfl)) rfl ?_; clear hF; intro a hF
         refine r_take 12 hF rfl rfl rfl (by kernel_rfl) (by kernel_rfl) (by kernel_rfl) (fun _ _ _ h => h) rfl hS (fun w hS => x_faddr Tryd.underlying64 rfl ty62 (by decide) (hF.tmp 6 rfl) rfl) rfl ?_; clear hF; intro a hF
         refine r_take 13 hF rfl rfl rfl (by kernel_rfl) (by kernel_rfl) (by kernel_rfl) (fun _ _ _ h => h) rfl hS (fun w hS => x_loadn (cs := #[.int .i64 (gsact xs (k : Int)).ans.outcome, .int .i64 (gsact xs (k : Int)).ans.err, .slice fA1_1 (gsact xs (k : Int)).ans.results.length fc1_1]) ty62 (hF.tmp 134 rfl) rfl (blk_sub (SL.at_ hS 6 rfl) 4 3 rfl)) rfl ?_; clear hF; intro a hF
         refine r_do 6 rfl (by kernel_rfl) rfl rfl ?_
         refine w_call hF (x_enter Tryd.func30 (by kernel_rfl) rfl (by simp only [List.map_toArray, List.map_cons, List.map_nil, hF.tmp 122 rfl, hF.tmp 125 rfl, hF.tmp 126 rfl, hF.tmp 127 rfl] <;> rfl)) (finish_calls (y := (gsact xs (k : Int)).ans) _ hq0_1 (hH.okX 100 rfl) hq0_2 (strOfNums (gsact xs (k : Int)).req.client) nn (Row.rd (ok' := fun k_ => (fun _ => False) k_ ∨ (.slice A120 (gsact xs (k : Int)).ans.results.length c120 : Value).ownBlock = some k_) (hH.row 116 rfl) (fun _ hk_ _ => .inl hk_) (fun _ hk_ => .inr hk_)) ⟨hbx.ans, hf40⟩ (fun k h => hH.inb 116 _ rfl k (by rcases h with h | h; exact h.elim; exact .inl h)) (fun k h hx => hH.sep 100 116 _ _ (by decide) rfl rfl k hx (by rcases h with h | h; exact h.elim; exact .inl h))) rfl rfl ?_
         rintro _ w ⟨X1, rfl, hX1, hg_⟩; refine ⟨_, rfl, ?_⟩; clear hF; intro a hF; have hH := hH.grew 100 rfl hg_ (fun k hk => hk.elim)
         clear hS; have hS : SL _ _ := SL.of hH (sub_cons (sub_cons (sub_nil _) 19 rfl) 6 rfl); refine ⟨hS, ?_⟩
         refine r_do 14 rfl (by kernel_rfl) rfl rfl ?_
         refine w_call hF (x_enter Tryd.func29 (by kernel_rfl) rfl (by simp only [List.map_toArray, List.map_cons, List.map_nil, hF.tmp 135 rfl] <;> rfl)) (answer_calls (y := (gsact xs (k : Int)).ans) _ ((hH.rd 1006 rfl))) rfl rfl ?_
         rintro _ w ⟨rfl, hm_⟩; refine ⟨_, rfl, ?_⟩; clear hF; intro a hF; have hH := hH.same hm_
         clear hS; have hS : SL _ _ := SL.of hH (sub_cons (sub_cons (sub_nil _) 19 rfl) 6 rfl); refine ⟨hS, ?_⟩
         refine r_do 15 rfl (by kernel_rfl) rfl rfl ?_
         refine w_call hF (x_enter Tryd.func34 (by kernel_rfl) rfl (by simp only [List.map_toArray, List.map_cons, List.map_nil, hF.tmp 129 rfl, hF.tmp 132 rfl, hF.tmp 133 rfl, hF.tmp 136 rfl] <;> rfl)) (kfin_calls (y := (gsact xs (k : Int)).ans) _ hq0_3 (hH.okX 101 rfl) hq0_4 (by omega) hbx.req.client nn ((hH.rd 1006 rfl)) (fun k h => hH.inb 1006 _ rfl k (.inr h)) (fun k h hx => hH.sep 101 1006 _ _ (by decide) rfl rfl k hx (.inr h))) rfl rfl ?_
         rintro _ w ⟨l1, Y1, rfl, hY1, hR1, hl1, hg_⟩; refine ⟨_, rfl, ?_⟩; clear hF; intro a hF; have hH := hH.grew 101 rfl hg_ (fun k hk => ⟨1006, _, rfl, hk⟩)
         clear hS; have hS : SL _ _ := SL.of hH (sub_cons (sub_cons (sub_nil _) 19 rfl) 6 rfl); refine ⟨hS, ?_⟩
         refine r_take 16 hF rfl rfl rfl (by kernel_rfl) (by kernel_rfl) (by kernel_rfl) (fun _ _ _ h => h) rfl hS (fun w hS => x_eql (hF.tmp 128 rfl) (hF.tmp 137 rfl)) rfl ?_; clear hF; intro a hF
         rw [decide_eq_true (rfl : (finE m (strOfNums (gsact xs (k : Int)).req.client) nn) = (finE m (strOfNums (gsact xs (k : Int)).req.client) nn))] at hF
         refine r_take 17 hF rfl rfl rfl (by kernel_rfl) (by kernel_rfl) (by kernel_rfl) (fun _ _ _ h => h) rfl hS (fun w hS => x_assign (hF.tmp 138 rfl)) rfl ?_; clear hF; intro a hF
         refine r_end (by kernel_rfl) ?_; clear hS
         refine hK53 _ _ ?_
         refine wp_seq_k fun khK54 hK54 => ?_
         refine wp_region_lit ?_
         refine l_at hF rfl rfl rfl (x_assign rfl) ?_; clear hF; intro a hF
         refine wpList_nil ?_
         refine hK54 _ _ ?_
         refine wp_block ?_
         refine wp_loop_ghost (fun n_ a w => ∃ j : Nat, ∃ rs : List ResultD, n_ = 41 - j ∧ (j ≤ rs.length) ∧ (rs.length ≤ 40) ∧ Fr 208 a [(0, .slice A xs.length c), (3, .pointer (some ⟨bt, 0, none⟩)), (4, .pointer (some ⟨b28, 0, none⟩)), (5, .int .i64 (k : Int)), (8, .bool true), (19, .pointer (some ⟨b19, 0, none⟩)), (20, .int .i64 (j : Int))] ∧ Hp (fun _ => False) w0 w [(901, .rd_ SactE A xs c (fun k => k < w0.heap.size)), (990, .lib pp), (100, X1), (101, Y1), (1003, .rd_ OpdE (fA1_0) (gsact xs (k : Int)).req.ops fc1_0 (fun k => k < w0.heap.size)), (1006, .rd_ ResE (fA1_1) (gsact xs (k : Int)).ans.results fc1_1 (fun k => k < w0.heap.size)), (6, .blk b6 (.cells #[.int .i64 (gsact xs (k : Int)).kind, .string (strOfNums (gsact xs (k : Int)).req.client), .int .i64 (gsact xs (k : Int)).req.num, .slice fA1_0 (gsact xs (k : Int)).req.ops.length fc1_0, .int .i64 (gsact xs (k : Int)).ans.outcome, .int .i64 (gsact xs (k : Int)).ans.err, .slice fA1_1 (gsact xs (k : Int)).ans.results.length fc1_1] 64 (0, 0))), (19, .blk b19 (.cells #[.int .i64 (gsact xs (k : Int)).ans.outcome, .int .i64 (gsact xs (k : Int)).ans.err, .slice A120 rs.length c120] 62 (0, 0))), (116, .row ResE 84 (.slice A120 rs.length c120) rs (fun _ => False))]) (41) ?_ ?_
         ·exact ⟨0, (gsact xs (k : Int)).ans.results, rfl, by omega, hf40, (((((((hF.bare.add hF 20 rfl).add hF 19 rfl).add hF 8 rfl).add hF 5 rfl).add hF 4 rfl).add hF 3 rfl).add hF 0 rfl), hH.sub _ (sub_cons (sub_cons (sub_cons (sub_cons (sub_cons (sub_cons (sub_cons (sub_cons (sub_cons (sub_nil _) 116 rfl) 19 rfl) 6 rfl) 1006 rfl) 1003 rfl) 101 rfl) 100 rfl) 990 rfl) 901 rfl)⟩
         ·rintro _ a w ⟨j, rs, rfl, hq5_0, hq5_1, hF, hH⟩
          refine wp_seq_k fun khK55 hK55 => ?_
          refine wp_seq_k fun khK56 hK56 => ?_
          refine wp_region_lit ?_
          refine l_at hF rfl rfl rfl (x_move (hF.tmp 20 rfl)) ?_; clear hF; intro a hF
          refine l_at hF rfl rfl rfl (x_faddr Tryd.underlying62 rfl ty60 (by decide) (hF.tmp 19 rfl) rfl) ?_; clear hF; intro a hF
          refine l_at hF rfl rfl rfl (x_load1 ty60 (hF.tmp 140 rfl) (blk_cell (hH.at 19 rfl) 2 rfl)) ?_; clear hF; intro a hF
          refine l_at hF rfl rfl rfl (x_len_slice Tryd.underlying60 (hF.tmp 141 rfl)) ?_; clear hF; intro a hF
          refine l_at hF rfl rfl rfl (x_lss (hF.tmp 139 rfl) (hF.tmp 142 rfl)) ?_; clear hF; intro a hF
          refine wpList_nil ?_
          refine hK56 _ _ ?_
          refine wp_cond_split (hF.tmp 143 rfl) (fun hc143 => ?_) (fun hc143 => ?_)
          ·have hk143_15 := hc143; try simp only [Bool.or_eq_true, Bool.and_eq_true, Bool.or_eq_false_iff, Bool.and_eq_false_iff, Bool.not_eq_true', Bool.not_eq_false', decide_eq_true_eq, decide_eq_false_iff_not, Bool.not_true, Bool.not_false] at hc143
           refine wp_skip ?_
           refine hK55 _ _ ?_
           refine wp_seq_k fun khK57 hK57 => ?_
           refine wp_block ?_
           refine wp_region_lit ?_
           refine l_at hF rfl rfl rfl (x_faddr Tryd.underlying62 rfl ty60 (by decide) (hF.tmp 19 rfl) rfl) ?_; clear hF; intro a hF
           refine l_at hF rfl rfl rfl (x_load1 ty60 (hF.tmp 146 rfl) (blk_cell (hH.at 19 rfl) 2 rfl)) ?_; clear hF; intro a hF
           refine l_at hF rfl rfl rfl (x_move (hF.tmp 20 rfl)) ?_; clear hF; intro a hF
           refine l_at hF rfl rfl rfl (x_buildS (cells := #[.bool false, .string (strOfNums []), .int .i64 99, .int .u64 0]) (places := #[(0, 1), (1, 1), (2, 1), (3, 1)]) Tryd.underlying84 ty84 (by kernel_rfl) (by simp only [List.map_toArray, List.map_cons, List.map_nil] <;> rfl) rfl) ?_; clear hF; intro a hF
           refine l_at hF rfl rfl rfl (x_iaddr_A Tryd.underlying60 ty84 (Row.rd (ok' := fun k_ => (fun _ => False) k_ ∨ (.slice A120 rs.length c120 : Value).ownBlock = some k_) (hH.row 116 rfl) (fun _ hk_ _ => .inl hk_) (fun _ hk_ => .inr hk_)) (hF.tmp 147 rfl) (hF.tmp 148 rfl) (by omega) (by omega) _) ?_; clear hF; intro a hF
           refine wpList_plain rfl fun K hK => ?_
           refine w_storeEl 116 j 0 (x0 := gres rs (j : Int)) (resN 99) (fun _ => False) hH ty84 rfl (gres_some (i := (j : Int)) (by omega) (by omega)) (hF.tmp 150 rfl) (hF.tmp 149 rfl) rfl (by simp [Value.cells, Value.oneCell']) (by decide) (fun cs hcs => by have h_ := res_cells hcs; subst h_; exact res_mk (resN 99)) (fun _ h => h) (fun _ h => .inl h) ?_
           clear hH; intro w hH
           refine hK _ _ ?_; clear hK K
           have hH : Hp (fun _ => False) w0 w [(901, .rd_ SactE A xs c (fun k => k < w0.heap.size)), (990, .lib pp), (100, X1), (101, Y1), (1003, .rd_ OpdE (fA1_0) (gsact xs (k : Int)).req.ops fc1_0 (fun k => k < w0.heap.size)), (1006, .rd_ ResE (fA1_1) (gsact xs (k : Int)).ans.results fc1_1 (fun k => k < w0.heap.size)), (6, .blk b6 (.cells #[.int .i64 (gsact xs (k : Int)).kind, .string (strOfNums (gsact xs (k : Int)).req.client), .int .i64 (gsact xs (k : Int)).req.num, .slice fA1_0 (gsact xs (k : Int)).req.ops.length fc1_0, .int .i64 (gsact xs (k : Int)).ans.outcome, .int .i64 (gsact xs (k : Int)).ans.err, .slice fA1_1 (gsact xs (k : Int)).ans.results.length fc1_1] 64 (0, 0))), (19, .blk b19 (.cells #[.int .i64 (gsact xs (k : Int)).ans.outcome, .int .i64 (gsact xs (k : Int)).ans.err, .slice A120 (rs.set j (resN 99)).length c120] 62 (0, 0))), (116, .row ResE 84 (.slice A120 (rs.set j (resN 99)).length c120) (rs.set j (resN 99)) (fun _ => False))] := by simp only [List.length_set]; exact hH.sub _ (sub_cons (sub_cons (sub_cons (sub_cons (sub_cons (sub_cons (sub_cons (sub_cons (sub_cons (sub_nil _) 116 rfl) 19 rfl) 6 rfl) 1006 rfl) 1003 rfl) 101 rfl) 100 rfl) 990 rfl) 901 rfl)
           refine wpList_nil ?_
           refine hK57 _ _ ?_
           refine wp_region_lit ?_
           refine l_at hF rfl rfl rfl (x_move (hF.tmp 20 rfl)) ?_; clear hF; intro a hF
           refine l_at hF rfl rfl rfl (x_add (hF.tmp 144 rfl) rfl (w64 (by omega) (by omega))) ?_; clear hF; intro a hF
           refine l_at hF rfl rfl rfl (x_assign (hF.tmp 145 rfl)) ?_; clear hF; intro a hF
           refine wpList_nil ?_
           exact ⟨_, by omega, ⟨j + 1, (rs.set j (resN 99)), rfl, by rw [List.length_set]; omega, by rw [List.length_set]; omega, (((((((hF.bare.add hF 20 rfl).add hF 19 rfl).add hF 8 rfl).add hF 5 rfl).add hF 4 rfl).add hF 3 rfl).add hF 0 rfl), hH.sub _ (sub_cons (sub_cons (sub_cons (sub_cons (sub_cons (sub_cons (sub_cons (sub_cons (sub_cons (sub_nil _) 116 rfl) 19 rfl) 6 rfl) 1006 rfl) 1003 rfl) 101 rfl) 100 rfl) 990 rfl) 901 rfl)⟩⟩
          ·have hk143_16 := hc143; try simp only [Bool.or_eq_true, Bool.and_eq_true, Bool.or_eq_false_iff, Bool.and_eq_false_iff, Bool.not_eq_true', Bool.not_eq_false', decide_eq_true_eq, decide_eq_false_iff_not, Bool.not_true, Bool.not_false] at hc143
           refine wp_exit ?_
           exact hJ65 _ _ X1 (finM m (strOfNums (gsact xs (k : Int)).req.client) nn (gsact xs (k : Int)).ans) Y1 l1 hX1 (fin_ok hq0_2 _ _ ⟨hbx.ans, hf40⟩) hY1 hR1 (by omega) (((((hF.bare.add hF 8 rfl).add hF 5 rfl).add hF 4 rfl).add hF 3 rfl).add hF 0 rfl) (hH.sub _ (sub_cons (sub_cons (sub_cons (sub_cons (sub_cons (sub_cons (sub_cons (sub_nil _) 6 rfl) 1006 rfl) 1003 rfl) 101 rfl) 100 rfl) 990 rfl) 901 rfl))
        ·have hk111_17 := hc111; try simp only [Bool.or_eq_true, Bool.and_eq_true, Bool.or_eq_false_iff, Bool.and_eq_false_iff, Bool.not_eq_true', Bool.not_eq_false', decide_eq_true_eq, decide_eq_false_iff_not, Bool.not_true, Bool.not_false] at hc111
         refine wp_skip ?_
         exact hJ65 _ _ X m Y l hq0_1 hq0_2 hq0_3 hq0_4 (by omega) (((((hF.bare.add hF 8 rfl).add hF 5 rfl).add hF 4 rfl).add hF 3 rfl).add hF 0 rfl) (hH.sub _ (sub_cons (sub_cons (sub_cons (sub_cons (sub_cons (sub_cons (sub_cons (sub_nil _) 6 rfl) 1006 rfl) 1003 rfl) 101 rfl) 100 rfl) 990 rfl) 901 rfl))
     refine wp_cond_split (hF.tmp 59 rfl) (fun hc59 => ?_) (fun hc59 => ?_)
     ·have hk59_18 := hc59; try simp only [Bool.or_eq_true, Bool.and_eq_true, Bool.or_eq_false_iff, Bool.and_eq_false_iff, Bool.not_eq_true', Bool.not_eq_false', decide_eq_true_eq, decide_eq_false_iff_not, Bool.not_true, Bool.not_false] at hc59
      refine wp_region_lit ?_
      refine l_at hF rfl rfl rfl (x_faddr Tryd.underlying64 rfl ty45 (by decide) (hF.tmp 6 rfl) rfl) ?_; clear hF; intro a hF
      refine l_at hF rfl rfl rfl (x_faddr Tryd.underlying45 rfl ty3 (by decide) (hF.tmp 60 rfl) rfl) ?_; clear hF; intro a hF
      refine l_at hF rfl rfl rfl (x_load1 ty3 (hF.tmp 61 rfl) (blk_cell (hH.at 6 rfl) 2 rfl)) ?_; clear hF; intro a hF
      refine l_at hF rfl rfl rfl (x_assign (hF.tmp 62 rfl)) ?_; clear hF; intro a hF
      refine wpList_nil ?_
      exact hJ59 _ _ ((gsact xs (k : Int)).req.num) (((((((hF.bare.add hF 9 rfl).add hF 8 rfl).add hF 6 rfl).add hF 5 rfl).add hF 4 rfl).add hF 3 rfl).add hF 0 rfl) (hH.sub _ (sub_cons (sub_cons (sub_cons (sub_cons (sub_cons (sub_cons (sub_cons (sub_nil _) 6 rfl) 1006 rfl) 1003 rfl) 101 rfl) 100 rfl) 990 rfl) 901 rfl))
     ·have hk59_19 := hc59; try simp only [Bool.or_eq_true, Bool.and_eq_true, Bool.or_eq_false_iff, Bool.and_eq_false_iff, Bool.not_eq_true', Bool.not_eq_false', decide_eq_true_eq, decide_eq_false_iff_not, Bool.not_true, Bool.not_false] at hc59
      refine wp_skip ?_
      exact hJ59 _ _ ((getT m (strOfNums (gsact xs (k : Int)).req.client)).number) (((((((hF.bare.add hF 9 rfl).add hF 8 rfl).add hF 6 rfl).add hF 5 rfl).add hF 4 rfl).add hF 3 rfl).add hF 0 rfl) (hH.sub _ (sub_cons (sub_cons (sub_cons (sub_cons (sub_cons (sub_cons (sub_cons (sub_nil _) 6 rfl) 1006 rfl) 1003 rfl) 101 rfl) 100 rfl) 990 rfl) 901 rfl))
   ·have hk38_20 := hc38; try simp only [Bool.or_eq_true, Bool.and_eq_true, Bool.or_eq_false_iff, Bool.and_eq_false_iff, Bool.not_eq_true', Bool.not_eq_false', decide_eq_true_eq, decide_eq_false_iff_not, Bool.not_true, Bool.not_false] at hc38
    refine wp_exit ?_
    refine hK6 _ _ ?_
    refine wp_seq_k fun khK58 hK58 => ?_
    refine wp_region_lit ?_
    refine wpList_plain rfl fun K hK => ?_
    refine w_call hF (x_enter Tryd.func19 (by kernel_rfl) rfl (by simp only [List.map_toArray, List.map_cons, List.map_nil] <;> rfl)) (qalive_calls _ (hH.holds 990 _ rfl)) rfl rfl ?_
    rintro _ w ⟨rfl, hm_⟩; refine ⟨_, rfl, ?_⟩; clear hF; intro a hF; have hH := hH.same hm_
    refine hK _ _ ?_; clear hK K
    refine l_at hF rfl rfl rfl (x_assign (hF.tmp 207 rfl)) ?_; clear hF; intro a hF
    refine wpList_nil ?_
    refine hK58 _ _ ?_
    refine wp_ret ?_
    try simp only [Exit.then, Exit.inBlock]
    exact fin_ret hF (res1 (v := .bool true) hF rfl rfl) ⟨rfl, hH.mods⟩
  ·have hc35 := hb35; try simp only [Bool.or_eq_true, Bool.and_eq_true, Bool.or_eq_false_iff, Bool.and_eq_false_iff, Bool.not_eq_true', Bool.not_eq_false', decide_eq_true_eq, decide_eq_false_iff_not, Bool.not_true, Bool.not_false] at hc35
   refine l_offg hF ((wanted_of hF rfl rfl rfl rfl).trans (by rw [hb35]; rfl)) rfl rfl ?_; clear hF; intro a hF
   refine l_offg hF ((wanted_of hF rfl rfl rfl rfl).trans (by rw [hb35]; rfl)) rfl rfl ?_; clear hF; intro a hF
   refine l_at hF rfl rfl rfl (x_pickF (hF.tmp 35 rfl) hb35 rfl) ?_; clear hF; intro a hF
   refine wpList_nil ?_
   refine hK9 _ _ ?_
   refine wp_cond_false (hF.tmp 38 rfl) ?_
   refine wp_exit ?_
   refine hK6 _ _ ?_
   refine wp_seq_k fun khK59 hK59 => ?_
   refine wp_region_lit ?_
   refine wpList_plain rfl fun K hK => ?_
   refine w_call hF (x_enter Tryd.func19 (by kernel_rfl) rfl (by simp only [List.map_toArray, List.map_cons, List.map_nil] <;> rfl)) (qalive_calls _ (hH.holds 990 _ rfl)) rfl rfl ?_
   rintro _ w ⟨rfl, hm_⟩; refine ⟨_, rfl, ?_⟩; clear hF; intro a hF; have hH := hH.same hm_
   refine hK _ _ ?_; clear hK K
   refine l_at hF rfl rfl rfl (x_assign (hF.tmp 207 rfl)) ?_; clear hF; intro a hF
   refine wpList_nil ?_
   refine hK59 _ _ ?_
   refine wp_ret ?_
   try simp only [Exit.then, Exit.inBlock]
   exact fin_ret hF (res1 (v := .bool true) hF rfl rfl) ⟨rfl, hH.mods⟩
end Go.Proofs.YtiiklnghnifmjaaDoor.Act
