/- There and back, of requests, walked. -/
import Derived.Test.YtiiklnghnifmjaaDoorSdcAZs
import Derived.Test.YtiiklnghnifmjaaDoorSesWZs
import Derived.Test.YtiiklnghnifmjaaDoorFlpDZs
import Derived.Test.YtiiklnghnifmjaaDoorStoZs
set_option linter.unusedVariables false
set_option linter.unusedSimpArgs false
namespace Go.Proofs.YtiiklnghnifmjaaDoor.Act
open Go.RowKit Go.Proofs.YtiiklnghnifmjaaDoor.Sx Go.Proofs.YtiiklnghnifmjaaDoor.Cod Go.Proofs.YtiiklnghnifmjaaDoor.Num
theorem ty81 : TyI Tryd.prog 81 (.agg #[.string (strOfNums []), .int .i64 0, .slice none 0 0]) 3 48 true := ⟨by kernel_rfl, _, Tryd.underlying81, rfl⟩
set_option maxRecDepth 100000 in
set_option maxHeartbeats 1000000 in
theorem pick_calls (w0 : World) (c n : Int) (hc : Fits c) (hn : 0 < n) : Calls Tryd.prog 40 #[.int .i64 c, .int .i64 n] w0 fun e w' => e = .returned (.int .i64 (pkI c n)) ∧ Mods (fun _ => False) w0 w' := by
 unfold Fits at hc
 refine calls_of_wp Tryd.func40 rfl ?_
 have hF := Fr.enter #[.int .i64 c, .int .i64 n] 13 (slotsOf [.int .i64 c, .int .i64 n] 0) (Nat.le_of_ble_eq_true rfl) (fun i v h => by have h2 := (get_slotsOf _ 0 i v h).2; simpa only [List.getElem?_toArray, Nat.sub_zero] using h2)
 have hH := Hp.nil (fun _ => False) w0
 rw [Tryd.ntmps40]
 revert hF; generalize (⟨(#[.int .i64 c, .int .i64 n] : Array Value) ++ Array.replicate (13 - (#[.int .i64 c, .int .i64 n] : Array Value).size) undef, []⟩ : Act) = a; intro hF
 refine wp_seq_k fun khK1 hK1 => ?_
 refine wp_region_lit ?_
 refine l_at hF rfl rfl rfl (x_assign rfl) ?_; clear hF; intro a hF
 refine wpList_nil ?_
 refine hK1 _ _ ?_
 refine wp_seq_k fun khK2 hK2 => ?_
 refine wp_seq_k fun khK3 hK3 => ?_
 refine wp_region_lit ?_
 refine l_at hF rfl rfl rfl (x_move (hF.tmp 0 rfl)) ?_; clear hF; intro a hF
 refine l_at hF rfl rfl rfl (x_lss (hF.tmp 5 rfl) rfl) ?_; clear hF; intro a hF
 refine wpList_nil ?_
 refine hK3 _ _ ?_
 refine wp_cond_split (hF.tmp 6 rfl) (fun hc6 => ?_) (fun hc6 => ?_)
 ·have hk6_1 := hc6; try simp only [Bool.or_eq_true, Bool.and_eq_true, Bool.or_eq_false_iff, Bool.and_eq_false_iff, Bool.not_eq_true', Bool.not_eq_false', decide_eq_true_eq, decide_eq_false_iff_not, Bool.not_true, Bool.not_false] at hc6
  refine wp_region_lit ?_
  refine l_at hF rfl rfl rfl (x_move (hF.tmp 0 rfl)) ?_; clear hF; intro a hF
  refine l_at hF rfl rfl rfl (x_add (hF.tmp 7 rfl) rfl (w64 (by omega) (by omega))) ?_; clear hF; intro a hF
  refine l_at hF rfl rfl rfl (x_neg (hF.tmp 8 rfl) (w64 (by omega) (by omega))) ?_; clear hF; intro a hF
  have habs := pk_neg hc6
  refine l_at hF rfl rfl rfl (x_assign (hF.tmp 9 rfl)) ?_; clear hF; intro a hF
  refine wpList_nil ?_
  refine hK2 _ _ ?_
  refine wp_seq_k fun khK4 hK4 => ?_
  refine wp_region_lit ?_
  refine l_at hF rfl rfl rfl (x_move (hF.tmp 0 rfl)) ?_; clear hF; intro a hF
  refine l_at hF rfl rfl rfl (x_move (hF.tmp 1 rfl)) ?_; clear hF; intro a hF
  refine l_at hF rfl rfl rfl (x_rem (hF.tmp 10 rfl) (hF.tmp 11 rfl) (by omega) rfl) ?_; clear hF; intro a hF
  refine l_at hF rfl rfl rfl (x_assign (hF.tmp 12 rfl)) ?_; clear hF; intro a hF
  refine wpList_nil ?_
  refine hK4 _ _ ?_
  refine wp_ret ?_
  try simp only [Exit.then, Exit.inBlock]
  exact fin_ret hF (res1 hF rfl rfl) ⟨by rw [pkI, ← habs], hH.mods⟩
 ·have hk6_2 := hc6; try simp only [Bool.or_eq_true, Bool.and_eq_true, Bool.or_eq_false_iff, Bool.and_eq_false_iff, Bool.not_eq_true', Bool.not_eq_false', decide_eq_true_eq, decide_eq_false_iff_not, Bool.not_true, Bool.not_false] at hc6
  have habs := pk_pos hc6
  refine wp_skip ?_
  refine hK2 _ _ ?_
  refine wp_seq_k fun khK5 hK5 => ?_
  refine wp_region_lit ?_
  refine l_at hF rfl rfl rfl (x_move (hF.tmp 0 rfl)) ?_; clear hF; intro a hF
  refine l_at hF rfl rfl rfl (x_move (hF.tmp 1 rfl)) ?_; clear hF; intro a hF
  refine l_at hF rfl rfl rfl (x_rem (hF.tmp 10 rfl) (hF.tmp 11 rfl) (by omega) rfl) ?_; clear hF; intro a hF
  refine l_at hF rfl rfl rfl (x_assign (hF.tmp 12 rfl)) ?_; clear hF; intro a hF
  refine wpList_nil ?_
  refine hK5 _ _ ?_
  refine wp_ret ?_
  try simp only [Exit.then, Exit.inBlock]
  exact fin_ret hF (res1 hF rfl rfl) ⟨by rw [pkI, ← habs], hH.mods⟩
set_option maxRecDepth 100000 in
set_option maxHeartbeats 1000000 in
theorem toldR_calls (w0 : World) {r : SReqD} {okr0 : Nat → Prop} {Ar0 : Option Addr} {cr0 : Nat} (hrr0 : Rd OpdE w0 okr0 Ar0 r.ops cr0) : Calls Tryd.prog 33 #[.agg #[.string (strOfNums r.client), .int .i64 r.num, .slice Ar0 r.ops.length cr0]] w0 fun e w' => e = .returned (.agg #[.string (strOfNums r.client), .int .i64 r.num, .slice Ar0 r.ops.length cr0]) ∧ Mods (fun _ => False) w0 w' := by
 refine calls_of_wp Tryd.func33 rfl ?_
 have hF := Fr.enter #[.agg #[.string (strOfNums r.client), .int .i64 r.num, .slice Ar0 r.ops.length cr0]] 10 (slotsOf [.agg #[.string (strOfNums r.client), .int .i64 r.num, .slice Ar0 r.ops.length cr0]] 0) (Nat.le_of_ble_eq_true rfl) (fun i v h => by have h2 := (get_slotsOf _ 0 i v h).2; simpa only [List.getElem?_toArray, Nat.sub_zero] using h2)
 have hH := Hp.nil (fun _ => False) w0
 rw [Tryd.ntmps33]
 revert hF; generalize (⟨(#[.agg #[.string (strOfNums r.client), .int .i64 r.num, .slice Ar0 r.ops.length cr0]] : Array Value) ++ Array.replicate (10 - (#[.agg #[.string (strOfNums r.client), .int .i64 r.num, .slice Ar0 r.ops.length cr0]] : Array Value).size) undef, []⟩ : Act) = a; intro hF
 have hH := hH.arg 900 hrr0.all (fun _ h => ⟨h, fun h => h⟩)
 have hler0 := hrr0.le; unfold maxLen at hler0
 refine wp_seq_k fun khK1 hK1 => ?_
 refine wp_region_lit ?_
 refine wpList_plain rfl fun K hK => ?_
 refine w_box 1 hF hH rfl (hF.tmp 0 rfl) ?_
 clear hF hH; intro a w b1 hF hH
 refine hK _ _ ?_; clear hK K
 refine wpList_plain rfl fun K hK => ?_
 refine w_alloc 2 hF hH rfl ty81 ?_
 clear hF hH; intro a w b2 hF hH
 refine hK _ _ ?_; clear hK K
 refine wpList_nil ?_
 refine hK1 _ _ ?_
 refine wp_seq_k fun khK2 hK2 => ?_
 refine wp_region_lit ?_
 refine l_at hF rfl rfl rfl (x_faddr Tryd.underlying45 rfl ty9 (by decide) (hF.tmp 1 rfl) rfl) ?_; clear hF; intro a hF
 refine l_at hF rfl rfl rfl (x_load1 ty9 (hF.tmp 3 rfl) (blk_cell (hH.at 1 rfl) 0 rfl)) ?_; clear hF; intro a hF
 refine l_at hF rfl rfl rfl (x_faddr Tryd.underlying45 rfl ty3 (by decide) (hF.tmp 1 rfl) rfl) ?_; clear hF; intro a hF
 refine l_at hF rfl rfl rfl (x_load1 ty3 (hF.tmp 5 rfl) (blk_cell (hH.at 1 rfl) 1 rfl)) ?_; clear hF; intro a hF
 refine l_at hF rfl rfl rfl (x_faddr Tryd.underlying45 rfl ty43 (by decide) (hF.tmp 1 rfl) rfl) ?_; clear hF; intro a hF
 refine l_at hF rfl rfl rfl (x_load1 ty43 (hF.tmp 7 rfl) (blk_cell (hH.at 1 rfl) 2 rfl)) ?_; clear hF; intro a hF
 refine l_at hF rfl rfl rfl (x_buildS (cells := #[.string (strOfNums r.client), .int .i64 r.num, .slice Ar0 r.ops.length cr0]) (places := #[(0, 1), (1, 1), (2, 1)]) Tryd.underlying81 ty81 (by kernel_rfl) (by simp only [List.map_toArray, List.map_cons, List.map_nil, hF.tmp 4 rfl, hF.tmp 6 rfl, hF.tmp 8 rfl] <;> rfl) rfl) ?_; clear hF; intro a hF
 refine wpList_plain rfl fun K hK => ?_
 refine w_storeA 2 hH ty81 rfl (hF.tmp 2 rfl) (hF.tmp 9 rfl) rfl (by simp [Value.cells, Value.oneCell']) rfl ?_
 clear hH; intro w hH
 refine hK _ _ ?_; clear hK K
 refine wpList_nil ?_
 refine hK2 _ _ ?_
 refine wp_ret ?_
 try simp only [Exit.then, Exit.inBlock]
 exact fin_ret hF (resc hF rfl rfl (hH.at 2 rfl) ty81 rfl) ⟨rfl, hH.mods⟩
set_option maxRecDepth 100000 in
set_option maxHeartbeats 1000000 in
theorem sameQ_calls (w0 : World) {p q : SReqD} {okp0 : Nat → Prop} {Ap0 : Option Addr} {cp0 : Nat} (hrp0 : Rd OpdE w0 okp0 Ap0 p.ops cp0) {okq0 : Nat → Prop} {Aq0 : Option Addr} {cq0 : Nat} (hrq0 : Rd OpdE w0 okq0 Aq0 q.ops cq0) (ha : SReqB p) (hb : SReqB q) : Calls Tryd.prog 39 #[.agg #[.string (strOfNums p.client), .int .i64 p.num, .slice Ap0 p.ops.length cp0], .agg #[.string (strOfNums q.client), .int .i64 q.num, .slice Aq0 q.ops.length cq0]] w0 fun e w' => e = .returned (.bool (decide (p = q))) ∧ Mods (fun _ => False) w0 w' := by
 refine calls_of_wp Tryd.func39 rfl ?_
 have hF := Fr.enter #[.agg #[.string (strOfNums p.client), .int .i64 p.num, .slice Ap0 p.ops.length cp0], .agg #[.string (strOfNums q.client), .int .i64 q.num, .slice Aq0 q.ops.length cq0]] 26 (slotsOf [.agg #[.string (strOfNums p.client), .int .i64 p.num, .slice Ap0 p.ops.length cp0], .agg #[.string (strOfNums q.client), .int .i64 q.num, .slice Aq0 q.ops.length cq0]] 0) (Nat.le_of_ble_eq_true rfl) (fun i v h => by have h2 := (get_slotsOf _ 0 i v h).2; simpa only [List.getElem?_toArray, Nat.sub_zero] using h2)
 have hH := Hp.nil (fun _ => False) w0
 rw [Tryd.ntmps39]
 revert hF; generalize (⟨(#[.agg #[.string (strOfNums p.client), .int .i64 p.num, .slice Ap0 p.ops.length cp0], .agg #[.string (strOfNums q.client), .int .i64 q.num, .slice Aq0 q.ops.length cq0]] : Array Value) ++ Array.replicate (26 - (#[.agg #[.string (strOfNums p.client), .int .i64 p.num, .slice Ap0 p.ops.length cp0], .agg #[.string (strOfNums q.client), .int .i64 q.num, .slice Aq0 q.ops.length cq0]] : Array Value).size) undef, []⟩ : Act) = a; intro hF
 have hH := hH.arg 900 hrp0.all (fun _ h => ⟨h, fun h => h⟩)
 have hlep0 := hrp0.le; unfold maxLen at hlep0
 have hH := hH.arg 950 hrq0.all (fun _ h => ⟨h, fun h => h⟩)
 have hleq0 := hrq0.le; unfold maxLen at hleq0
 refine wp_seq_k fun khK1 hK1 => ?_
 refine wp_region_lit ?_
 refine wpList_plain rfl fun K hK => ?_
 refine w_box 2 hF hH rfl (hF.tmp 0 rfl) ?_
 clear hF hH; intro a w b2 hF hH
 refine hK _ _ ?_; clear hK K
 refine wpList_plain rfl fun K hK => ?_
 refine w_box 3 hF hH rfl (hF.tmp 1 rfl) ?_
 clear hF hH; intro a w b3 hF hH
 refine hK _ _ ?_; clear hK K
 refine l_at hF rfl rfl rfl (x_assign rfl) ?_; clear hF; intro a hF
 refine wpList_nil ?_
 refine hK1 _ _ ?_
 refine wp_seq_k fun khK2 hK2 => ?_
 refine wp_region_lit ?_
 refine l_at hF rfl rfl rfl (x_faddr Tryd.underlying45 rfl ty43 (by decide) (hF.tmp 2 rfl) rfl) ?_; clear hF; intro a hF
 refine l_at hF rfl rfl rfl (x_load1 ty43 (hF.tmp 6 rfl) (blk_cell (hH.at 2 rfl) 2 rfl)) ?_; clear hF; intro a hF
 refine l_at hF rfl rfl rfl (x_faddr Tryd.underlying81 rfl ty43 (by decide) (hF.tmp 3 rfl) rfl) ?_; clear hF; intro a hF
 refine l_at hF rfl rfl rfl (x_load1 ty43 (hF.tmp 8 rfl) (blk_cell (hH.at 3 rfl) 2 rfl)) ?_; clear hF; intro a hF
 refine wpList_plain rfl fun K hK => ?_
 refine w_call hF (x_enter Tryd.func22 (by kernel_rfl) rfl (by simp only [List.map_toArray, List.map_cons, List.map_nil, hF.tmp 7 rfl, hF.tmp 9 rfl] <;> rfl)) (sameOs_calls _ ((hH.rd 900 rfl)) ((hH.rd 950 rfl)) ha.ops hb.ops) rfl rfl ?_
 rintro _ w ⟨rfl, hm_⟩; refine ⟨_, rfl, ?_⟩; clear hF; intro a hF; have hH := hH.same hm_
 refine hK _ _ ?_; clear hK K
 refine l_at hF rfl rfl rfl (x_assign (hF.tmp 10 rfl)) ?_; clear hF; intro a hF
 refine wpList_nil ?_
 refine hK2 _ _ ?_
 refine wp_seq_k fun khK3 hK3 => ?_
 refine wp_region_lit ?_
 refine l_at hF rfl rfl rfl (x_faddr Tryd.underlying45 rfl ty9 (by decide) (hF.tmp 2 rfl) rfl) ?_; clear hF; intro a hF
 refine l_at hF rfl rfl rfl (x_load1 ty9 (hF.tmp 11 rfl) (blk_cell (hH.at 2 rfl) 0 rfl)) ?_; clear hF; intro a hF
 refine l_at hF rfl rfl rfl (x_faddr Tryd.underlying81 rfl ty9 (by decide) (hF.tmp 3 rfl) rfl) ?_; clear hF; intro a hF
 refine l_at hF rfl rfl rfl (x_load1 ty9 (hF.tmp 13 rfl) (blk_cell (hH.at 3 rfl) 0 rfl)) ?_; clear hF; intro a hF
 refine l_at hF rfl rfl rfl (x_eqn (xs := p.client) (ys := q.client) (hF.tmp 12 rfl) (hF.tmp 14 rfl) ha.client hb.client) ?_; clear hF; intro a hF
 refine l_at hF rfl rfl rfl (x_move (hF.tmp 15 rfl)) ?_; clear hF; intro a hF
 refine split_bool hF 16 rfl (fun hb16 => ?_) (fun hb16 => ?_)
 ·have hc16 := hb16; try simp only [Bool.or_eq_true, Bool.and_eq_true, Bool.or_eq_false_iff, Bool.and_eq_false_iff, Bool.not_eq_true', Bool.not_eq_false', decide_eq_true_eq, decide_eq_false_iff_not, Bool.not_true, Bool.not_false] at hc16
  refine l_atg hF ((wanted_of hF rfl rfl rfl rfl).trans (by rw [hb16]; rfl)) rfl rfl (x_faddr Tryd.underlying45 rfl ty3 (by decide) (hF.tmp 2 rfl) rfl) ?_; clear hF; intro a hF
  refine l_atg hF ((wanted_of hF rfl rfl rfl rfl).trans (by rw [hb16]; rfl)) rfl rfl (x_load1 ty3 (hF.tmp 17 rfl) (blk_cell (hH.at 2 rfl) 1 rfl)) ?_; clear hF; intro a hF
  refine l_atg hF ((wanted_of hF rfl rfl rfl rfl).trans (by rw [hb16]; rfl)) rfl rfl (x_faddr Tryd.underlying81 rfl ty3 (by decide) (hF.tmp 3 rfl) rfl) ?_; clear hF; intro a hF
  refine l_atg hF ((wanted_of hF rfl rfl rfl rfl).trans (by rw [hb16]; rfl)) rfl rfl (x_load1 ty3 (hF.tmp 19 rfl) (blk_cell (hH.at 3 rfl) 1 rfl)) ?_; clear hF; intro a hF
  refine l_atg hF ((wanted_of hF rfl rfl rfl rfl).trans (by rw [hb16]; rfl)) rfl rfl (x_eql (hF.tmp 18 rfl) (hF.tmp 20 rfl)) ?_; clear hF; intro a hF
  refine l_at hF rfl rfl rfl (x_pickT (hF.tmp 16 rfl) hb16 (hF.tmp 21 rfl)) ?_; clear hF; intro a hF
  refine l_at hF rfl rfl rfl (x_move (hF.tmp 22 rfl)) ?_; clear hF; intro a hF
  refine split_bool hF 23 rfl (fun hb23 => ?_) (fun hb23 => ?_)
  ·have hc23 := hb23; try simp only [Bool.or_eq_true, Bool.and_eq_true, Bool.or_eq_false_iff, Bool.and_eq_false_iff, Bool.not_eq_true', Bool.not_eq_false', decide_eq_true_eq, decide_eq_false_iff_not, Bool.not_true, Bool.not_false] at hc23
   refine l_atg hF ((wanted_of hF rfl rfl rfl rfl).trans (by rw [hb23]; rfl)) rfl rfl (x_move (hF.tmp 5 rfl)) ?_; clear hF; intro a hF
   refine l_at hF rfl rfl rfl (x_pickT (hF.tmp 23 rfl) hb23 (hF.tmp 24 rfl)) ?_; clear hF; intro a hF
   refine l_at hF rfl rfl rfl (x_assign (hF.tmp 25 rfl)) ?_; clear hF; intro a hF
   refine wpList_nil ?_
   refine hK3 _ _ ?_
   refine wp_ret ?_
   try simp only [Exit.then, Exit.inBlock]
   have hv : (decide (p.ops = q.ops)) = decide (p = q) := by rw [Bool.eq_iff_iff]; simp only [decide_eq_true_iff, sreq_same]; first | (simp [hc16, hc23]; done) | (simp [hc16, hc23]; omega)
   exact fin_ret hF (res1 (v := .bool (decide (p.ops = q.ops))) hF rfl rfl) ⟨by rw [hv], hH.mods⟩
  ·have hc23 := hb23; try simp only [Bool.or_eq_true, Bool.and_eq_true, Bool.or_eq_false_iff, Bool.and_eq_false_iff, Bool.not_eq_true', Bool.not_eq_false', decide_eq_true_eq, decide_eq_false_iff_not, Bool.not_true, Bool.not_false] at hc23
   refine l_offg hF ((wanted_of hF rfl rfl rfl rfl).trans (by rw [hb23]; rfl)) rfl rfl ?_; clear hF; intro a hF
   refine l_at hF rfl rfl rfl (x_pickF (hF.tmp 23 rfl) hb23 rfl) ?_; clear hF; intro a hF
   refine l_at hF rfl rfl rfl (x_assign (hF.tmp 25 rfl)) ?_; clear hF; intro a hF
   refine wpList_nil ?_
   refine hK3 _ _ ?_
   refine wp_ret ?_
   try simp only [Exit.then, Exit.inBlock]
   have hv : false = decide (p = q) := by rw [Bool.eq_iff_iff]; simp only [decide_eq_true_iff, sreq_same]; first | (simp [hc16, hc23]; done) | (simp [hc16, hc23]; omega)
   exact fin_ret hF (res1 (v := .bool false) hF rfl rfl) ⟨by rw [hv], hH.mods⟩
 ·have hc16 := hb16; try simp only [Bool.or_eq_true, Bool.and_eq_true, Bool.or_eq_false_iff, Bool.and_eq_false_iff, Bool.not_eq_true', Bool.not_eq_false', decide_eq_true_eq, decide_eq_false_iff_not, Bool.not_true, Bool.not_false] at hc16
  refine l_offg hF ((wanted_of hF rfl rfl rfl rfl).trans (by rw [hb16]; rfl)) rfl rfl ?_; clear hF; intro a hF
  refine l_offg hF ((wanted_of hF rfl rfl rfl rfl).trans (by rw [hb16]; rfl)) rfl rfl ?_; clear hF; intro a hF
  refine l_offg hF ((wanted_of hF rfl rfl rfl rfl).trans (by rw [hb16]; rfl)) rfl rfl ?_; clear hF; intro a hF
  refine l_offg hF ((wanted_of hF rfl rfl rfl rfl).trans (by rw [hb16]; rfl)) rfl rfl ?_; clear hF; intro a hF
  refine l_offg hF ((wanted_of hF rfl rfl rfl rfl).trans (by rw [hb16]; rfl)) rfl rfl ?_; clear hF; intro a hF
  refine l_at hF rfl rfl rfl (x_pickF (hF.tmp 16 rfl) hb16 rfl) ?_; clear hF; intro a hF
  refine l_at hF rfl rfl rfl (x_move (hF.tmp 22 rfl)) ?_; clear hF; intro a hF
  refine l_offg hF ((wanted_of hF rfl rfl rfl rfl).trans rfl) rfl rfl ?_; clear hF; intro a hF
  refine l_at hF rfl rfl rfl (x_pickF (hF.tmp 23 rfl) rfl rfl) ?_; clear hF; intro a hF
  refine l_at hF rfl rfl rfl (x_assign (hF.tmp 25 rfl)) ?_; clear hF; intro a hF
  refine wpList_nil ?_
  refine hK3 _ _ ?_
  refine wp_ret ?_
  try simp only [Exit.then, Exit.inBlock]
  have hv : false = decide (p = q) := by rw [Bool.eq_iff_iff]; simp only [decide_eq_true_iff, sreq_same]; first | (simp [hc16]; done) | (simp [hc16]; omega)
  exact fin_ret hF (res1 (v := .bool false) hF rfl rfl) ⟨by rw [hv], hH.mods⟩
set_option maxRecDepth 100000 in
set_option maxHeartbeats 1000000 in
theorem sBack_calls (w0 : World) (hL : LibAt true w0) {r : SReqD} {okr0 : Nat → Prop} {Ar0 : Option Addr} {cr0 : Nat} (hrr0 : Rd OpdE w0 okr0 Ar0 r.ops cr0) (hb : SReqB r) {ok : Nat → Prop} {A : Option Addr} {bs : List Int} {c : Nat} (hrb : Rd (.int .u8) w0 ok A bs c) (hby : Byte bs) (at_ : Int) (hat : Fits at_) : Calls Tryd.prog 10 #[.agg #[.string (strOfNums r.client), .int .i64 r.num, .slice Ar0 r.ops.length cr0], .slice A bs.length c, .int .i64 at_] w0 fun e w' => e = .returned (.bool true) ∧ Mods (fun _ => False) w0 w' := by
 refine calls_of_wp Tryd.func10 rfl ?_
 have hF := Fr.enter #[.agg #[.string (strOfNums r.client), .int .i64 r.num, .slice Ar0 r.ops.length cr0], .slice A bs.length c, .int .i64 at_] 111 (slotsOf [.agg #[.string (strOfNums r.client), .int .i64 r.num, .slice Ar0 r.ops.length cr0], .slice A bs.length c, .int .i64 at_] 0) (Nat.le_of_ble_eq_true rfl) (fun i v h => by have h2 := (get_slotsOf _ 0 i v h).2; simpa only [List.getElem?_toArray, Nat.sub_zero] using h2)
 have hH := Hp.nil (fun _ => False) w0
 rw [Tryd.ntmps10]
 revert hF; generalize (⟨(#[.agg #[.string (strOfNums r.client), .int .i64 r.num, .slice Ar0 r.ops.length cr0], .slice A bs.length c, .int .i64 at_] : Array Value) ++ Array.replicate (111 - (#[.agg #[.string (strOfNums r.client), .int .i64 r.num, .slice Ar0 r.ops.length cr0], .slice A bs.length c, .int .i64 at_] : Array Value).size) undef, []⟩ : Act) = a; intro hF
 have hH := hH.arg 910 hrr0.all (fun _ h => ⟨h, fun h => h⟩)
 have hler0 := hrr0.le; unfold maxLen at hler0
 have hH := hH.arg 901 hrb.all (fun _ h => ⟨h, fun h => h⟩)
 have hleb := hrb.le; unfold maxLen at hleb
 have hH := hH.libN 990 hL
 refine wp_seq_k fun khK1 hK1 => ?_
 refine wp_region_lit ?_
 refine wpList_plain rfl fun K hK => ?_
 refine w_box 3 hF hH rfl (hF.tmp 0 rfl) ?_
 clear hF hH; intro a w b3 hF hH
 refine hK _ _ ?_; clear hK K
 refine l_at hF rfl rfl rfl (x_assign rfl) ?_; clear hF; intro a hF
 refine wpList_nil ?_
 refine hK1 _ _ ?_
 refine wp_seq_k fun khK2 hK2 => ?_
 refine wp_region_lit ?_
 refine l_at hF rfl rfl rfl (x_loadn ty45 (hF.tmp 3 rfl) rfl (blk_whole (hH.at 3 rfl))) ?_; clear hF; intro a hF
 refine wpList_plain rfl fun K hK => ?_
 refine w_call hF (x_enter Tryd.func18 (by kernel_rfl) rfl (by simp only [List.map_toArray, List.map_cons, List.map_nil, hF.tmp 20 rfl] <;> rfl)) (fitsQ_calls (r := r) _ ((hH.rd 910 rfl))) rfl rfl ?_
 rintro _ w ⟨bf_, rfl, hm_⟩; refine ⟨_, rfl, ?_⟩; clear hF; intro a hF; have hH := hH.same hm_
 refine hK _ _ ?_; clear hK K
 refine l_at hF rfl rfl rfl (x_assign (hF.tmp 21 rfl)) ?_; clear hF; intro a hF
 refine wpList_nil ?_
 refine hK2 _ _ ?_
 refine wp_seq_k fun khK3 hK3 => ?_
 refine wp_seq_k fun khK4 hK4 => ?_
 refine wp_region_lit ?_
 refine l_at hF rfl rfl rfl (x_move (hF.tmp 7 rfl)) ?_; clear hF; intro a hF
 refine l_at hF rfl rfl rfl (x_not (hF.tmp 22 rfl)) ?_; clear hF; intro a hF
 refine l_at hF rfl rfl rfl (x_move (hF.tmp 23 rfl)) ?_; clear hF; intro a hF
 refine split_bool hF 24 rfl (fun hb24 => ?_) (fun hb24 => ?_)
 ·have hc24 := hb24; try simp only [Bool.or_eq_true, Bool.and_eq_true, Bool.or_eq_false_iff, Bool.and_eq_false_iff, Bool.not_eq_true', Bool.not_eq_false', decide_eq_true_eq, decide_eq_false_iff_not, Bool.not_true, Bool.not_false] at hc24
  refine l_offg hF ((wanted_of hF rfl rfl rfl rfl).trans (by rw [hb24]; rfl)) rfl rfl ?_; clear hF; intro a hF
  refine l_offg hF ((wanted_of hF rfl rfl rfl rfl).trans (by rw [hb24]; rfl)) rfl rfl ?_; clear hF; intro a hF
  refine l_offg hF ((wanted_of hF rfl rfl rfl rfl).trans (by rw [hb24]; rfl)) rfl rfl ?_; clear hF; intro a hF
  refine l_at hF rfl rfl rfl (x_pickT (hF.tmp 24 rfl) hb24 rfl) ?_; clear hF; intro a hF
  refine wpList_nil ?_
  refine hK4 _ _ ?_
  refine wp_cond_true (hF.tmp 28 rfl) ?_
  refine wp_seq_k fun khK5 hK5 => ?_
  refine wp_region_lit ?_
  refine wpList_plain rfl fun K hK => ?_
  refine w_call hF (x_enter Tryd.func19 (by kernel_rfl) rfl (by simp only [List.map_toArray, List.map_cons, List.map_nil] <;> rfl)) (qalive_calls _ (hH.holds 990 _ rfl)) rfl rfl ?_
  rintro _ w ⟨rfl, hm_⟩; refine ⟨_, rfl, ?_⟩; clear hF; intro a hF; have hH := hH.same hm_
  refine hK _ _ ?_; clear hK K
  refine l_at hF rfl rfl rfl (x_assign (hF.tmp 29 rfl)) ?_; clear hF; intro a hF
  refine wpList_nil ?_
  refine hK5 _ _ ?_
  refine wp_ret ?_
  try simp only [Exit.then, Exit.inBlock]
  exact fin_ret hF (res1 (v := .bool true) hF rfl rfl) ⟨rfl, hH.mods⟩
 ·have hc24 := hb24; try simp only [Bool.or_eq_true, Bool.and_eq_true, Bool.or_eq_false_iff, Bool.and_eq_false_iff, Bool.not_eq_true', Bool.not_eq_false', decide_eq_true_eq, decide_eq_false_iff_not, Bool.not_true, Bool.not_false] at hc24
  refine l_atg hF ((wanted_of hF rfl rfl rfl rfl).trans (by rw [hb24]; rfl)) rfl rfl (x_move (hF.tmp 1 rfl)) ?_; clear hF; intro a hF
  refine l_atg hF ((wanted_of hF rfl rfl rfl rfl).trans (by rw [hb24]; rfl)) rfl rfl (x_len_slice Tryd.underlying28 (hF.tmp 25 rfl)) ?_; clear hF; intro a hF
  refine l_atg hF ((wanted_of hF rfl rfl rfl rfl).trans (by rw [hb24]; rfl)) rfl rfl (x_gtr (hF.tmp 26 rfl) rfl) ?_; clear hF; intro a hF
  refine l_at hF rfl rfl rfl (x_pickF (hF.tmp 24 rfl) hb24 (hF.tmp 27 rfl)) ?_; clear hF; intro a hF
  refine wpList_nil ?_
  refine hK4 _ _ ?_
  refine wp_cond_split (hF.tmp 28 rfl) (fun hc28 => ?_) (fun hc28 => ?_)
  ·have hk28_1 := hc28; try simp only [Bool.or_eq_true, Bool.and_eq_true, Bool.or_eq_false_iff, Bool.and_eq_false_iff, Bool.not_eq_true', Bool.not_eq_false', decide_eq_true_eq, decide_eq_false_iff_not, Bool.not_true, Bool.not_false] at hc28
   refine wp_seq_k fun khK6 hK6 => ?_
   refine wp_region_lit ?_
   refine wpList_plain rfl fun K hK => ?_
   refine w_call hF (x_enter Tryd.func19 (by kernel_rfl) rfl (by simp only [List.map_toArray, List.map_cons, List.map_nil] <;> rfl)) (qalive_calls _ (hH.holds 990 _ rfl)) rfl rfl ?_
   rintro _ w ⟨rfl, hm_⟩; refine ⟨_, rfl, ?_⟩; clear hF; intro a hF; have hH := hH.same hm_
   refine hK _ _ ?_; clear hK K
   refine l_at hF rfl rfl rfl (x_assign (hF.tmp 29 rfl)) ?_; clear hF; intro a hF
   refine wpList_nil ?_
   refine hK6 _ _ ?_
   refine wp_ret ?_
   try simp only [Exit.then, Exit.inBlock]
   exact fin_ret hF (res1 (v := .bool true) hF rfl rfl) ⟨rfl, hH.mods⟩
  ·have hk28_2 := hc28; try simp only [Bool.or_eq_true, Bool.and_eq_true, Bool.or_eq_false_iff, Bool.and_eq_false_iff, Bool.not_eq_true', Bool.not_eq_false', decide_eq_true_eq, decide_eq_false_iff_not, Bool.not_true, Bool.not_false] at hc28
   refine wp_skip ?_
   refine hK3 _ _ ?_
   refine wp_seq_k fun khK7 hK7 => ?_
   refine wp_region_lit ?_
   refine l_at hF rfl rfl rfl (x_move (hF.tmp 1 rfl)) ?_; clear hF; intro a hF
   refine wpList_plain rfl fun K hK => ?_
   refine w_call hF (x_enter Tryd.func37 (by kernel_rfl) rfl (by simp only [List.map_toArray, List.map_cons, List.map_nil, hF.tmp 31 rfl] <;> rfl)) (decQ_calls (bs := bs) _ (hH.holds 990 _ rfl) ((hH.rd 901 rfl)) hby) rfl rfl ?_
   rintro _ w ⟨z, Ao70, co70, oko70, g70, rfl, hm_, h1_, hf_, hD70⟩; refine ⟨_, rfl, ?_⟩; clear hF; intro a hF; have hH := ((hH.same hm_).rdNew 70 (fun i A' hA k hk => hH.inb i A' hA k (.inl hk)) h1_ hf_).1
   refine hK _ _ ?_; clear hK K
   refine l_at hF rfl rfl rfl (x_move (hF.tmp 32 rfl)) ?_; clear hF; intro a hF
   refine l_at hF rfl rfl rfl (x_extract (hF.tmp 30 rfl) rfl) ?_; clear hF; intro a hF
   refine l_at hF rfl rfl rfl (x_extract (hF.tmp 30 rfl) rfl) ?_; clear hF; intro a hF
   refine wpList_plain rfl fun K hK => ?_
   refine w_alloc 8 hF hH rfl ty45 ?_
   clear hF hH; intro a w b8 hF hH
   refine hK _ _ ?_; clear hK K
   refine wpList_plain rfl fun K hK => ?_
   refine w_storeA 8 hH ty45 rfl (hF.tmp 8 rfl) (hF.tmp 33 rfl) rfl (by simp [Value.cells, Value.oneCell']) rfl ?_
   clear hH; intro w hH
   refine hK _ _ ?_; clear hK K
   refine l_at hF rfl rfl rfl (x_assign (hF.tmp 34 rfl)) ?_; clear hF; intro a hF
   refine wpList_nil ?_
   refine hK7 _ _ ?_
   refine wp_seq_k fun khK8 hK8 => ?_
   refine wp_seq_k fun khK9 hK9 => ?_
   refine wp_region_lit ?_
   refine l_at hF rfl rfl rfl (x_move (hF.tmp 9 rfl)) ?_; clear hF; intro a hF
   refine l_at hF rfl rfl rfl (x_eql (hF.tmp 35 rfl) rfl) ?_; clear hF; intro a hF
   refine wpList_nil ?_
   refine hK9 _ _ ?_
   refine wp_cond_split (hF.tmp 36 rfl) (fun hc36 => ?_) (fun hc36 => ?_)
   ·have hk36_3 := hc36; try simp only [Bool.or_eq_true, Bool.and_eq_true, Bool.or_eq_false_iff, Bool.and_eq_false_iff, Bool.not_eq_true', Bool.not_eq_false', decide_eq_true_eq, decide_eq_false_iff_not, Bool.not_true, Bool.not_false] at hc36
    have hrz := hD70.yes hc36
    refine wp_seq_k fun khK10 hK10 => ?_
    refine wp_region_lit ?_
    refine l_at hF rfl rfl rfl (x_loadn ty45 (hF.tmp 8 rfl) rfl (blk_whole (hH.at 8 rfl))) ?_; clear hF; intro a hF
    refine wpList_plain rfl fun K hK => ?_
    refine w_call hF (x_enter Tryd.func38 (by kernel_rfl) rfl (by simp only [List.map_toArray, List.map_cons, List.map_nil, hF.tmp 38 rfl] <;> rfl)) (encQ_calls (r := z) _ (hH.holds 990 _ rfl) ((hH.rd 70 rfl)) hD70.1) rfl rfl ?_
    rintro _ w ⟨vr39, rfl, hm_, hr_⟩; refine ⟨_, rfl, ?_⟩; clear hF; intro a hF; have hH := Hp.rowOut hH 39 hm_ hr_; obtain ⟨Ar39, cr39, rfl⟩ := (hH.row 39 rfl).form
    refine hK _ _ ?_; clear hK K
    refine l_at hF rfl rfl rfl (x_move (hF.tmp 39 rfl)) ?_; clear hF; intro a hF
    refine l_at hF rfl rfl rfl (x_extract (hF.tmp 37 rfl) rfl) ?_; clear hF; intro a hF
    refine l_at hF rfl rfl rfl (x_extract (hF.tmp 37 rfl) rfl) ?_; clear hF; intro a hF
    refine l_at hF rfl rfl rfl (x_assign (hF.tmp 40 rfl)) ?_; clear hF; intro a hF
    refine l_at hF rfl rfl rfl (x_assign (hF.tmp 41 rfl)) ?_; clear hF; intro a hF
    refine wpList_nil ?_
    refine hK10 _ _ ?_
    refine wp_seq_k fun khK11 hK11 => ?_
    refine wp_region_lit ?_
    rw [encQE_yes hrz.1] at hF
    refine l_at hF rfl rfl rfl (x_move (hF.tmp 11 rfl)) ?_; clear hF; intro a hF
    refine l_at hF rfl rfl rfl (x_neq (hF.tmp 42 rfl) rfl) ?_; clear hF; intro a hF
    refine l_at hF rfl rfl rfl (x_move (hF.tmp 43 rfl)) ?_; clear hF; intro a hF
    refine l_atg hF ((wanted_of hF rfl rfl rfl rfl).trans rfl) rfl rfl (x_move (hF.tmp 10 rfl)) ?_; clear hF; intro a hF
    refine l_atg hF ((wanted_of hF rfl rfl rfl rfl).trans rfl) rfl rfl (x_b2s Tryd.underlying28 Tryd.underlying5 Tryd.underlying9 (Row.rd (ok' := fun k_ => (fun _ => False) k_ ∨ (.slice Ar39 (encQ z).length cr39 : Value).ownBlock = some k_) (hH.row 39 rfl) (fun _ hk_ _ => .inl hk_) (fun _ hk_ => .inr hk_)) (hF.tmp 45 rfl)) ?_; clear hF; intro a hF
    refine l_atg hF ((wanted_of hF rfl rfl rfl rfl).trans rfl) rfl rfl (x_move (hF.tmp 1 rfl)) ?_; clear hF; intro a hF
    refine l_atg hF ((wanted_of hF rfl rfl rfl rfl).trans rfl) rfl rfl (x_b2s Tryd.underlying28 Tryd.underlying5 Tryd.underlying9 ((hH.rd 901 rfl)) (hF.tmp 47 rfl)) ?_; clear hF; intro a hF
    refine l_atg hF ((wanted_of hF rfl rfl rfl rfl).trans rfl) rfl rfl (x_nen (xs := (encQ z)) (ys := bs) (hF.tmp 46 rfl) (hF.tmp 48 rfl) (encQ_byte hD70.1) hby) ?_; clear hF; intro a hF
    rw [decide_eq_true hrz.2] at hF
    refine l_at hF rfl rfl rfl (x_pickF (hF.tmp 44 rfl) rfl (hF.tmp 49 rfl)) ?_; clear hF; intro a hF
    refine l_at hF rfl rfl rfl (x_move (hF.tmp 50 rfl)) ?_; clear hF; intro a hF
    refine l_atg hF ((wanted_of hF rfl rfl rfl rfl).trans rfl) rfl rfl (x_loadn ty45 (hF.tmp 8 rfl) rfl (blk_whole (hH.at 8 rfl))) ?_; clear hF; intro a hF
    refine wpList_on ((wanted_of hF rfl rfl rfl rfl).trans rfl) fun K hK => ?_
    refine w_call hF (x_enter Tryd.func21 (by kernel_rfl) rfl (by simp only [List.map_toArray, List.map_cons, List.map_nil, hF.tmp 52 rfl] <;> rfl)) (rightQ_calls (r := z) _ (hH.holds 990 _ rfl) ((hH.rd 70 rfl)) hD70.1) rfl rfl ?_
    rintro _ w ⟨rfl, hm_⟩; refine ⟨_, rfl, ?_⟩; clear hF; intro a hF; have hH := hH.same hm_
    refine hK _ _ ?_; clear hK K
    rw [hrz.1] at hF
    refine l_atg hF ((wanted_of hF rfl rfl rfl rfl).trans rfl) rfl rfl (x_not (hF.tmp 53 rfl)) ?_; clear hF; intro a hF
    refine l_at hF rfl rfl rfl (x_pickF (hF.tmp 51 rfl) rfl (hF.tmp 54 rfl)) ?_; clear hF; intro a hF
    refine wpList_nil ?_
    refine hK11 _ _ ?_
    refine wp_cond_false (hF.tmp 55 rfl) ?_
    refine wp_skip ?_
    refine hK8 _ _ ?_
    refine wp_seq_k fun khK12 hK12 => ?_
    refine wp_region_lit ?_
    refine l_at hF rfl rfl rfl (x_loadn ty45 (hF.tmp 3 rfl) rfl (blk_whole (hH.at 3 rfl))) ?_; clear hF; intro a hF
    refine wpList_plain rfl fun K hK => ?_
    refine w_call hF (x_enter Tryd.func38 (by kernel_rfl) rfl (by simp only [List.map_toArray, List.map_cons, List.map_nil, hF.tmp 57 rfl] <;> rfl)) (encQ_calls (r := r) _ (hH.holds 990 _ rfl) ((hH.rd 910 rfl)) hb) rfl rfl ?_
    rintro _ w ⟨vr58, rfl, hm_, hr_⟩; refine ⟨_, rfl, ?_⟩; clear hF; intro a hF; have hH := Hp.rowOut hH 58 hm_ hr_; obtain ⟨Ar58, cr58, rfl⟩ := (hH.row 58 rfl).form
    refine hK _ _ ?_; clear hK K
    refine l_at hF rfl rfl rfl (x_move (hF.tmp 58 rfl)) ?_; clear hF; intro a hF
    refine l_at hF rfl rfl rfl (x_extract (hF.tmp 56 rfl) rfl) ?_; clear hF; intro a hF
    refine l_at hF rfl rfl rfl (x_extract (hF.tmp 56 rfl) rfl) ?_; clear hF; intro a hF
    refine l_at hF rfl rfl rfl (x_assign (hF.tmp 59 rfl)) ?_; clear hF; intro a hF
    refine l_at hF rfl rfl rfl (x_assign (hF.tmp 60 rfl)) ?_; clear hF; intro a hF
    refine wpList_nil ?_
    refine hK12 _ _ ?_
    refine wp_seq_k fun khK13 hK13 => ?_
    refine wp_seq_k fun khK14 hK14 => ?_
    refine wp_region_lit ?_
    refine l_at hF rfl rfl rfl (x_move (hF.tmp 13 rfl)) ?_; clear hF; intro a hF
    refine l_at hF rfl rfl rfl (x_neq (hF.tmp 61 rfl) rfl) ?_; clear hF; intro a hF
    refine wpList_nil ?_
    refine hK14 _ _ ?_
    refine wp_cond_split (hF.tmp 62 rfl) (fun hc62 => ?_) (fun hc62 => ?_)
    ·have hk62_4 := hc62; try simp only [Bool.or_eq_true, Bool.and_eq_true, Bool.or_eq_false_iff, Bool.and_eq_false_iff, Bool.not_eq_true', Bool.not_eq_false', decide_eq_true_eq, decide_eq_false_iff_not, Bool.not_true, Bool.not_false] at hc62
     have hr0 := encQE_ne (r := r) hc62
     refine wp_seq_k fun khK15 hK15 => ?_
     refine wp_region_lit ?_
     refine wpList_plain rfl fun K hK => ?_
     refine w_call hF (x_enter Tryd.func19 (by kernel_rfl) rfl (by simp only [List.map_toArray, List.map_cons, List.map_nil] <;> rfl)) (qalive_calls _ (hH.holds 990 _ rfl)) rfl rfl ?_
     rintro _ w ⟨rfl, hm_⟩; refine ⟨_, rfl, ?_⟩; clear hF; intro a hF; have hH := hH.same hm_
     refine hK _ _ ?_; clear hK K
     refine l_at hF rfl rfl rfl (x_move (hF.tmp 63 rfl)) ?_; clear hF; intro a hF
     refine l_atg hF ((wanted_of hF rfl rfl rfl rfl).trans rfl) rfl rfl (x_loadn ty45 (hF.tmp 3 rfl) rfl (blk_whole (hH.at 3 rfl))) ?_; clear hF; intro a hF
     refine wpList_on ((wanted_of hF rfl rfl rfl rfl).trans rfl) fun K hK => ?_
     refine w_call hF (x_enter Tryd.func21 (by kernel_rfl) rfl (by simp only [List.map_toArray, List.map_cons, List.map_nil, hF.tmp 65 rfl] <;> rfl)) (rightQ_calls (r := r) _ (hH.holds 990 _ rfl) ((hH.rd 910 rfl)) hb) rfl rfl ?_
     rintro _ w ⟨rfl, hm_⟩; refine ⟨_, rfl, ?_⟩; clear hF; intro a hF; have hH := hH.same hm_
     refine hK _ _ ?_; clear hK K
     rw [hr0] at hF
     refine l_atg hF ((wanted_of hF rfl rfl rfl rfl).trans rfl) rfl rfl (x_not (hF.tmp 66 rfl)) ?_; clear hF; intro a hF
     refine l_at hF rfl rfl rfl (x_pickT (hF.tmp 64 rfl) rfl (hF.tmp 67 rfl)) ?_; clear hF; intro a hF
     refine l_at hF rfl rfl rfl (x_assign (hF.tmp 68 rfl)) ?_; clear hF; intro a hF
     refine wpList_nil ?_
     refine hK15 _ _ ?_
     refine wp_ret ?_
     try simp only [Exit.then, Exit.inBlock]
     exact fin_ret hF (res1 (v := .bool true) hF rfl rfl) ⟨rfl, hH.mods⟩
    ·have hk62_5 := hc62; try simp only [Bool.or_eq_true, Bool.and_eq_true, Bool.or_eq_false_iff, Bool.and_eq_false_iff, Bool.not_eq_true', Bool.not_eq_false', decide_eq_true_eq, decide_eq_false_iff_not, Bool.not_true, Bool.not_false] at hc62
     have hr := encQE0 (r := r) hc62
     refine wp_skip ?_
     refine hK13 _ _ ?_
     refine wp_seq_k fun khK16 hK16 => ?_
     refine wp_region_lit ?_
     refine l_at hF rfl rfl rfl (x_move (hF.tmp 12 rfl)) ?_; clear hF; intro a hF
     refine wpList_plain rfl fun K hK => ?_
     refine w_call hF (x_enter Tryd.func37 (by kernel_rfl) rfl (by simp only [List.map_toArray, List.map_cons, List.map_nil, hF.tmp 70 rfl] <;> rfl)) (decQ_calls (bs := (encQ r)) _ (hH.holds 990 _ rfl) (Row.rd (ok' := fun k_ => (fun _ => False) k_ ∨ (.slice Ar58 (encQ r).length cr58 : Value).ownBlock = some k_) (hH.row 58 rfl) (fun _ hk_ _ => .inl hk_) (fun _ hk_ => .inr hk_)) (encQ_byte hb)) rfl rfl ?_
     rintro _ w ⟨y, Ao80, co80, oko80, g80, rfl, hm_, h1_, hf_, hD80⟩; refine ⟨_, rfl, ?_⟩; clear hF; intro a hF; have hH := ((hH.same hm_).rdNew 80 (fun i A' hA k hk => hH.inb i A' hA k (.inl hk)) h1_ hf_).1
     refine hK _ _ ?_; clear hK K
     refine l_at hF rfl rfl rfl (x_move (hF.tmp 71 rfl)) ?_; clear hF; intro a hF
     refine l_at hF rfl rfl rfl (x_extract (hF.tmp 69 rfl) rfl) ?_; clear hF; intro a hF
     refine l_at hF rfl rfl rfl (x_extract (hF.tmp 69 rfl) rfl) ?_; clear hF; intro a hF
     refine wpList_plain rfl fun K hK => ?_
     refine w_alloc 14 hF hH rfl ty45 ?_
     clear hF hH; intro a w b14 hF hH
     refine hK _ _ ?_; clear hK K
     refine wpList_plain rfl fun K hK => ?_
     refine w_storeA 14 hH ty45 rfl (hF.tmp 14 rfl) (hF.tmp 72 rfl) rfl (by simp [Value.cells, Value.oneCell']) rfl ?_
     clear hH; intro w hH
     refine hK _ _ ?_; clear hK K
     refine l_at hF rfl rfl rfl (x_assign (hF.tmp 73 rfl)) ?_; clear hF; intro a hF
     refine wpList_nil ?_
     refine hK16 _ _ ?_
     refine wp_seq_k fun khK17 hK17 => ?_
     refine r_start [(3, .blk b3 (.cells #[.string (strOfNums r.client), .int .i64 r.num, .slice Ar0 r.ops.length cr0] 45 (0, 0))), (14, .blk b14 (.cells #[.string (strOfNums y.client), .int .i64 y.num, .slice Ao80 y.ops.length co80] 45 (0, 0)))] (by kernel_rfl) hH fun hH => ?_
     have hS : SL [(3, .blk b3 (.cells #[.string (strOfNums r.client), .int .i64 r.num, .slice Ar0 r.ops.length cr0] 45 (0, 0))), (14, .blk b14 (.cells #[.string (strOfNums y.client), .int .i64 y.num, .slice Ao80 y.ops.length co80] 45 (0, 0)))] _ := SL.of hH (sub_cons (sub_cons (sub_nil _) 14 rfl) 3 rfl)
     have hy := hD80.of hr hb rfl
     refine r_take 0 hF rfl rfl rfl (by kernel_rfl) (by kernel_rfl) (by kernel_rfl) (fun _ _ _ h => h) rfl hS (fun w hS => x_loadn ty45 (hF.tmp 14 rfl) rfl (blk_whole (SL.at_ hS 14 rfl))) rfl ?_; clear hF; intro a hF
     refine r_take 1 hF rfl rfl rfl (by kernel_rfl) (by kernel_rfl) (by kernel_rfl) (fun _ _ _ h => h) rfl hS (fun w hS => x_loadn ty45 (hF.tmp 3 rfl) rfl (blk_whole (SL.at_ hS 3 rfl))) rfl ?_; clear hF; intro a hF
     refine r_do 2 rfl (by kernel_rfl) rfl rfl ?_
     refine w_call hF (x_enter Tryd.func33 (by kernel_rfl) rfl (by simp only [List.map_toArray, List.map_cons, List.map_nil, hF.tmp 75 rfl] <;> rfl)) (toldR_calls (r := r) _ ((hH.rd 910 rfl))) rfl rfl ?_
     rintro _ w ⟨rfl, hm_⟩; refine ⟨_, rfl, ?_⟩; clear hF; intro a hF; have hH := hH.same hm_
     clear hS; have hS : SL _ _ := SL.of hH (sub_cons (sub_cons (sub_nil _) 14 rfl) 3 rfl); refine ⟨hS, ?_⟩
     refine r_do 3 rfl (by kernel_rfl) rfl rfl ?_
     refine w_call hF (x_enter Tryd.func39 (by kernel_rfl) rfl (by simp only [List.map_toArray, List.map_cons, List.map_nil, hF.tmp 74 rfl, hF.tmp 76 rfl] <;> rfl)) (sameQ_calls _ ((hH.rd 80 rfl)) ((hH.rd 910 rfl)) hD80.1 hb) rfl rfl ?_
     rintro _ w ⟨rfl, hm_⟩; refine ⟨_, rfl, ?_⟩; clear hF; intro a hF; have hH := hH.same hm_
     clear hS; have hS : SL _ _ := SL.of hH (sub_cons (sub_cons (sub_nil _) 14 rfl) 3 rfl); refine ⟨hS, ?_⟩
     rw [decide_eq_true hy.2] at hF
     refine r_take 4 hF rfl rfl rfl (by kernel_rfl) (by kernel_rfl) (by kernel_rfl) (fun _ _ _ h => h) rfl hS (fun w hS => x_assign (hF.tmp 77 rfl)) rfl ?_; clear hF; intro a hF
     refine r_end (by kernel_rfl) ?_; clear hS
     refine hK17 _ _ ?_
     refine wp_seq_k fun khK18 hK18 => ?_
     refine wp_region_lit ?_
     have hxp : (0 : Int) < ((encQ r).length : Int) := by have := encQ_pos hr; omega
     have hpk := pk_range (c := at_) hxp
     have hp5 := pk_range (c := at_) (n := 255) (by decide)
     refine l_at hF rfl rfl rfl (x_move (hF.tmp 2 rfl)) ?_; clear hF; intro a hF
     refine l_at hF rfl rfl rfl (x_move (hF.tmp 12 rfl)) ?_; clear hF; intro a hF
     refine l_at hF rfl rfl rfl (x_len_slice Tryd.underlying28 (hF.tmp 79 rfl)) ?_; clear hF; intro a hF
     refine wpList_plain rfl fun K hK => ?_
     refine w_call hF (x_enter Tryd.func40 (by kernel_rfl) rfl (by simp only [List.map_toArray, List.map_cons, List.map_nil, hF.tmp 78 rfl, hF.tmp 80 rfl] <;> rfl)) (pick_calls _ at_ ((encQ r).length : Int) hat hxp) rfl rfl ?_
     rintro _ w ⟨rfl, hm_⟩; refine ⟨_, rfl, ?_⟩; clear hF; intro a hF; have hH := hH.same hm_
     refine hK _ _ ?_; clear hK K
     refine l_at hF rfl rfl rfl (x_assign (hF.tmp 81 rfl)) ?_; clear hF; intro a hF
     refine wpList_nil ?_
     refine hK18 _ _ ?_
     refine wp_seq_k fun khK19 hK19 => ?_
     refine r_start [] (by kernel_rfl) hH fun hH => ?_
     have hS : SL [] _ := SL.of hH (sub_nil _)
     refine r_take 0 hF rfl rfl rfl (by kernel_rfl) (by kernel_rfl) (by kernel_rfl) (fun _ _ _ h => h) rfl hS (fun w hS => x_move (hF.tmp 12 rfl)) rfl ?_; clear hF; intro a hF
     refine r_take 1 hF rfl rfl rfl (by kernel_rfl) (by kernel_rfl) (by kernel_rfl) (fun _ _ _ h => h) rfl hS (fun w hS => x_move (hF.tmp 17 rfl)) rfl ?_; clear hF; intro a hF
     refine r_take 2 hF rfl rfl rfl (by kernel_rfl) (by kernel_rfl) (by kernel_rfl) (fun _ _ _ h => h) rfl hS (fun w hS => x_move (hF.tmp 12 rfl)) rfl ?_; clear hF; intro a hF
     refine r_take 3 hF rfl rfl rfl (by kernel_rfl) (by kernel_rfl) (by kernel_rfl) (fun _ _ _ h => h) rfl hS (fun w hS => x_move (hF.tmp 17 rfl)) rfl ?_; clear hF; intro a hF
     refine r_take 4 hF rfl rfl rfl (by kernel_rfl) (by kernel_rfl) (by kernel_rfl) (fun _ _ _ h => h) rfl hS (fun w hS => x_iaddr_A Tryd.underlying28 ty5 (Row.rd (ok' := fun k_ => (fun _ => False) k_ ∨ (.slice Ar58 (encQ r).length cr58 : Value).ownBlock = some k_) (hH.row 58 rfl) (fun _ hk_ _ => .inl hk_) (fun _ hk_ => .inr hk_)) (hF.tmp 84 rfl) (hF.tmp 85 rfl) (by omega) (by omega) _) rfl ?_; clear hF; intro a hF
     refine r_take 6 hF rfl rfl rfl (by kernel_rfl) (by kernel_rfl) (by kernel_rfl) (fun _ _ _ h => h) rfl hS (fun w hS => x_move (hF.tmp 2 rfl)) rfl ?_; clear hF; intro a hF
     refine r_do2 5 7 rfl rfl (by kernel_rfl) rfl rfl rfl rfl ?_ ?_
     ·
      refine w_at hF (x_load1 ty5 (hF.tmp 86 rfl) ((Row.rd (ok' := fun k_ => False ∨ (Value.slice Ar58 (encQ r).length cr58).ownBlock = some k_) (hH.row 58 rfl) (fun _ h _ => h.elim) (fun _ h => .inr h)).cellA (gi_some (i := pkI at_ ((encQ r).length : Int)) (by omega) (by omega)))) rfl rfl ?_
      clear hF; intro a hF
      clear hS; have hS : SL _ _ := SL.of hH (sub_nil _); refine ⟨hS, ?_⟩
      refine r_do 7 rfl (by kernel_rfl) rfl rfl ?_
      refine w_call hF (x_enter Tryd.func40 (by kernel_rfl) rfl (by simp only [List.map_toArray, List.map_cons, List.map_nil, hF.tmp 88 rfl] <;> rfl)) (pick_calls _ at_ 255 hat (by decide)) rfl rfl ?_
      rintro _ w ⟨rfl, hm_⟩; refine ⟨_, rfl, ?_⟩; clear hF; intro a hF; have hH := hH.same hm_
      clear hS; have hS : SL _ _ := SL.of hH (sub_nil _); refine ⟨hS, ?_⟩
      refine r_take 8 hF rfl rfl rfl (by kernel_rfl) (by kernel_rfl) (by kernel_rfl) (fun _ _ _ h => h) rfl hS (fun w hS => x_add rfl (hF.tmp 89 rfl) (w64 (by omega) (by omega))) rfl ?_; clear hF; intro a hF
      refine r_take 9 hF rfl rfl rfl (by kernel_rfl) (by kernel_rfl) (by kernel_rfl) (fun _ _ _ h => h) rfl hS (fun w hS => x_conv Tryd.underlying5 ⟨_, Tryd.underlying3⟩ (hF.tmp 90 rfl) (wu8 (by omega) (by omega))) rfl ?_; clear hF; intro a hF
      refine r_take 10 hF rfl rfl rfl (by kernel_rfl) (by kernel_rfl) (by kernel_rfl) (fun _ _ _ h => h) rfl hS (fun w hS => x_bits (by simp) (hF.tmp 87 rfl) (hF.tmp 91 rfl) rfl) rfl ?_; clear hF; intro a hF
      refine r_take 11 hF rfl rfl rfl (by kernel_rfl) (by kernel_rfl) (by kernel_rfl) (fun _ _ _ h => h) rfl hS (fun w hS => x_iaddr_A Tryd.underlying28 ty5 (Row.rd (ok' := fun k_ => (fun _ => False) k_ ∨ (.slice Ar58 (encQ r).length cr58 : Value).ownBlock = some k_) (hH.row 58 rfl) (fun _ hk_ _ => .inl hk_) (fun _ hk_ => .inr hk_)) (hF.tmp 82 rfl) (hF.tmp 83 rfl) (by omega) (by omega) _) rfl ?_; clear hF; intro a hF
      refine r_do 12 rfl (by kernel_rfl) rfl rfl ?_
      refine w_storeEl 58 (pkI at_ ((encQ r).length : Int)).toNat 0 (E := Rep.int .u8) (bits .xor .u8 (gi (encQ r) (pkI at_ ((encQ r).length : Int))) (1 + pkI at_ 255)) (fun _ => False) hH ty5 rfl (gi_some (xs := encQ r) (i := pkI at_ ((encQ r).length : Int)) (by omega) (by omega)) (hF.tmp 93 rfl) (hF.tmp 92 rfl) rfl (one1 rfl rfl) (by decide) (fun cs hcs => by rw [show cs = _ from hcs]; rfl) (fun _ h => h) (fun _ h => h.elim) ?_
      clear hH; intro w hH
      clear hS; have hS : SL _ _ := SL.of hH (sub_nil _); refine ⟨hS, ?_⟩
      refine r_end (by kernel_rfl) ?_; clear hS
      refine hK19 _ _ ?_
      refine wp_seq_k fun khK20 hK20 => ?_
      refine wp_region_lit ?_
      have hflp := flip_bad hr hb at_
      have hfl_ : (flipI (encQ r) at_).length = (encQ r).length := List.length_set ..
      rw [show ((encQ r).set (pkI at_ ((encQ r).length : Int)).toNat (bits .xor .u8 (gi (encQ r) (pkI at_ ((encQ r).length : Int))) (1 + pkI at_ 255))) = flipI (encQ r) at_ from rfl, ← hfl_] at hH
      have hF := FrD.add hF hF 12 (v := .slice Ar58 (flipI (encQ r) at_).length cr58) (by rw [hfl_]; rfl)
      refine l_at hF rfl rfl rfl (x_move (hF.tmp 12 rfl)) ?_; clear hF; intro a hF
      refine wpList_plain rfl fun K hK => ?_
      refine w_call hF (x_enter Tryd.func37 (by kernel_rfl) rfl (by simp only [List.map_toArray, List.map_cons, List.map_nil, hF.tmp 95 rfl] <;> rfl)) (decQ_calls (bs := (flipI (encQ r) at_)) _ (hH.holds 990 _ rfl) (Row.rd (ok' := fun k_ => (fun _ => False) k_ ∨ (.slice Ar58 (flipI (encQ r) at_).length cr58 : Value).ownBlock = some k_) (hH.row 58 rfl) (fun _ hk_ _ => .inl hk_) (fun _ hk_ => .inr hk_)) hflp.2) rfl rfl ?_
      rintro _ w ⟨v_, Ao90, co90, oko90, g90, rfl, hm_, h1_, hf_, hD90⟩; refine ⟨_, rfl, ?_⟩; clear hF; intro a hF; have hH := ((hH.same hm_).rdNew 90 (fun i A' hA k hk => hH.inb i A' hA k (.inl hk)) h1_ hf_).1
      refine hK _ _ ?_; clear hK K
      refine l_at hF rfl rfl rfl (x_move (hF.tmp 96 rfl)) ?_; clear hF; intro a hF
      refine l_at hF rfl rfl rfl (x_extract (hF.tmp 94 rfl) rfl) ?_; clear hF; intro a hF
      refine l_at hF rfl rfl rfl (x_extract (hF.tmp 94 rfl) rfl) ?_; clear hF; intro a hF
      refine wpList_plain rfl fun K hK => ?_
      refine w_alloc 18 hF hH rfl ty45 ?_
      clear hF hH; intro a w b18 hF hH
      refine hK _ _ ?_; clear hK K
      refine wpList_plain rfl fun K hK => ?_
      refine w_storeA 18 hH ty45 rfl (hF.tmp 18 rfl) (hF.tmp 97 rfl) rfl (by simp [Value.cells, Value.oneCell']) rfl ?_
      clear hH; intro w hH
      refine hK _ _ ?_; clear hK K
      refine l_at hF rfl rfl rfl (x_assign (hF.tmp 98 rfl)) ?_; clear hF; intro a hF
      refine wpList_nil ?_
      refine hK20 _ _ ?_
      refine wp_seq_k fun khK21 hK21 => ?_
      refine wp_region_lit ?_
      refine wpList_plain rfl fun K hK => ?_
      refine w_call hF (x_enter Tryd.func19 (by kernel_rfl) rfl (by simp only [List.map_toArray, List.map_cons, List.map_nil] <;> rfl)) (qalive_calls _ (hH.holds 990 _ rfl)) rfl rfl ?_
      rintro _ w ⟨rfl, hm_⟩; refine ⟨_, rfl, ?_⟩; clear hF; intro a hF; have hH := hH.same hm_
      refine hK _ _ ?_; clear hK K
      refine l_at hF rfl rfl rfl (x_move (hF.tmp 99 rfl)) ?_; clear hF; intro a hF
      rw [hy.1] at hF
      refine l_atg hF ((wanted_of hF rfl rfl rfl rfl).trans rfl) rfl rfl (x_move (hF.tmp 15 rfl)) ?_; clear hF; intro a hF
      refine l_atg hF ((wanted_of hF rfl rfl rfl rfl).trans rfl) rfl rfl (x_eql (hF.tmp 101 rfl) rfl) ?_; clear hF; intro a hF
      refine l_at hF rfl rfl rfl (x_pickT (hF.tmp 100 rfl) rfl (hF.tmp 102 rfl)) ?_; clear hF; intro a hF
      refine l_at hF rfl rfl rfl (x_move (hF.tmp 103 rfl)) ?_; clear hF; intro a hF
      refine l_atg hF ((wanted_of hF rfl rfl rfl rfl).trans rfl) rfl rfl (x_move (hF.tmp 16 rfl)) ?_; clear hF; intro a hF
      refine l_at hF rfl rfl rfl (x_pickT (hF.tmp 104 rfl) rfl (hF.tmp 105 rfl)) ?_; clear hF; intro a hF
      refine l_at hF rfl rfl rfl (x_move (hF.tmp 106 rfl)) ?_; clear hF; intro a hF
      rw [hD90.bad hflp.1] at hF
      refine l_atg hF ((wanted_of hF rfl rfl rfl rfl).trans rfl) rfl rfl (x_move (hF.tmp 19 rfl)) ?_; clear hF; intro a hF
      refine l_atg hF ((wanted_of hF rfl rfl rfl rfl).trans rfl) rfl rfl (x_eql (hF.tmp 108 rfl) rfl) ?_; clear hF; intro a hF
      refine l_at hF rfl rfl rfl (x_pickT (hF.tmp 107 rfl) rfl (hF.tmp 109 rfl)) ?_; clear hF; intro a hF
      refine l_at hF rfl rfl rfl (x_assign (hF.tmp 110 rfl)) ?_; clear hF; intro a hF
      refine wpList_nil ?_
      refine hK21 _ _ ?_
      refine wp_ret ?_
      try simp only [Exit.then, Exit.inBlock]
      exact fin_ret hF (res1 (v := .bool true) hF rfl rfl) ⟨rfl, hH.mods⟩
     ·
      refine w_call hF (x_enter Tryd.func40 (by kernel_rfl) rfl (by simp only [List.map_toArray, List.map_cons, List.map_nil, hF.tmp 88 rfl] <;> rfl)) (pick_calls _ at_ 255 hat (by decide)) rfl rfl ?_
      rintro _ w ⟨rfl, hm_⟩; refine ⟨_, rfl, ?_⟩; clear hF; intro a hF; have hH := hH.same hm_
      clear hS; have hS : SL _ _ := SL.of hH (sub_nil _); refine ⟨hS, ?_⟩
      refine r_take 8 hF rfl rfl rfl (by kernel_rfl) (by kernel_rfl) (by kernel_rfl) (fun _ _ _ h => h) rfl hS (fun w hS => x_add rfl (hF.tmp 89 rfl) (w64 (by omega) (by omega))) rfl ?_; clear hF; intro a hF
      refine r_take 9 hF rfl rfl rfl (by kernel_rfl) (by kernel_rfl) (by kernel_rfl) (fun _ _ _ h => h) rfl hS (fun w hS => x_conv Tryd.underlying5 ⟨_, Tryd.underlying3⟩ (hF.tmp 90 rfl) (wu8 (by omega) (by omega))) rfl ?_; clear hF; intro a hF
      refine r_do 5 rfl (by kernel_rfl) rfl rfl ?_
      refine w_at hF (x_load1 ty5 (hF.tmp 86 rfl) ((Row.rd (ok' := fun k_ => False ∨ (Value.slice Ar58 (encQ r).length cr58).ownBlock = some k_) (hH.row 58 rfl) (fun _ h _ => h.elim) (fun _ h => .inr h)).cellA (gi_some (i := pkI at_ ((encQ r).length : Int)) (by omega) (by omega)))) rfl rfl ?_
      clear hF; intro a hF
      clear hS; have hS : SL _ _ := SL.of hH (sub_nil _); refine ⟨hS, ?_⟩
      refine r_take 10 hF rfl rfl rfl (by kernel_rfl) (by kernel_rfl) (by kernel_rfl) (fun _ _ _ h => h) rfl hS (fun w hS => x_bits (by simp) (hF.tmp 87 rfl) (hF.tmp 91 rfl) rfl) rfl ?_; clear hF; intro a hF
      refine r_take 11 hF rfl rfl rfl (by kernel_rfl) (by kernel_rfl) (by kernel_rfl) (fun _ _ _ h => h) rfl hS (fun w hS => x_iaddr_A Tryd.underlying28 ty5 (Row.rd (ok' := fun k_ => (fun _ => False) k_ ∨ (.slice Ar58 (encQ r).length cr58 : Value).ownBlock = some k_) (hH.row 58 rfl) (fun _ hk_ _ => .inl hk_) (fun _ hk_ => .inr hk_)) (hF.tmp 82 rfl) (hF.tmp 83 rfl) (by omega) (by omega) _) rfl ?_; clear hF; intro a hF
      refine r_do 12 rfl (by kernel_rfl) rfl rfl ?_
      refine w_storeEl 58 (pkI at_ ((encQ r).length : Int)).toNat 0 (E := Rep.int .u8) (bits .xor .u8 (gi (encQ r) (pkI at_ ((encQ r).length : Int))) (1 + pkI at_ 255)) (fun _ => False) hH ty5 rfl (gi_some (xs := encQ r) (i := pkI at_ ((encQ r).length : Int)) (by omega) (by omega)) (hF.tmp 93 rfl) (hF.tmp 92 rfl) rfl (one1 rfl rfl) (by decide) (fun cs hcs => by rw [show cs = _ from hcs]; rfl) (fun _ h => h) (fun _ h => h.elim) ?_
      clear hH; intro w hH
      clear hS; have hS : SL _ _ := SL.of hH (sub_nil _); refine ⟨hS, ?_⟩
      refine r_end (by kernel_rfl) ?_; clear hS
      refine hK19 _ _ ?_
      refine wp_seq_k fun khK22 hK22 => ?_
      refine wp_region_lit ?_
      have hflp := flip_bad hr hb at_
      have hfl_ : (flipI (encQ r) at_).length = (encQ r).length := List.length_set ..
      rw [show ((encQ r).set (pkI at_ ((encQ r).length : Int)).toNat (bits .xor .u8 (gi (encQ r) (pkI at_ ((encQ r).length : Int))) (1 + pkI at_ 255))) = flipI (encQ r) at_ from rfl, ← hfl_] at hH
      have hF := FrD.add hF hF 12 (v := .slice Ar58 (flipI (encQ r) at_).length cr58) (by rw [hfl_]; rfl)
      refine l_at hF rfl rfl rfl (x_move (hF.tmp 12 rfl)) ?_; clear hF; intro a hF
      refine wpList_plain rfl fun K hK => ?_
      refine w_call hF (x_enter Tryd.func37 (by kernel_rfl) rfl (by simp only [List.map_toArray, List.map_cons, List.map_nil, hF.tmp 95 rfl] <;> rfl)) (decQ_calls (bs := (flipI (encQ r) at_)) _ (hH.holds 990 _ rfl) (Row.rd (ok' := fun k_ => (fun _ => False) k_ ∨ (.slice Ar58 (flipI (encQ r) at_).length cr58 : Value).ownBlock = some k_) (hH.row 58 rfl) (fun _ hk_ _ => .inl hk_) (fun _ hk_ => .inr hk_)) hflp.2) rfl rfl ?_
      rintro _ w ⟨v_, Ao90, co90, oko90, g90, rfl, hm_, h1_, hf_, hD90⟩; refine ⟨_, rfl, ?_⟩; clear hF; intro a hF; have hH := ((hH.same hm_).rdNew 90 (fun i A' hA k hk => hH.inb i A' hA k (.inl hk)) h1_ hf_).1
      refine hK _ _ ?_; clear hK K
      refine l_at hF rfl rfl rfl (x_move (hF.tmp 96 rfl)) ?_; clear hF; intro a hF
      refine l_at hF rfl rfl rfl (x_extract (hF.tmp 94 rfl) rfl) ?_; clear hF; intro a hF
      refine l_at hF rfl rfl rfl (x_extract (hF.tmp 94 rfl) rfl) ?_; clear hF; intro a hF
      refine wpList_plain rfl fun K hK => ?_
      refine w_alloc 18 hF hH rfl ty45 ?_
      clear hF hH; intro a w b18 hF hH
      refine hK _ _ ?_; clear hK K
      refine wpList_plain rfl fun K hK => ?_
      refine w_storeA 18 hH ty45 rfl (hF.tmp 18 rfl) (hF.tmp 97 rfl) rfl (by simp [Value.cells, Value.oneCell']) rfl ?_
      clear hH; intro w hH
      refine hK _ _ ?_; clear hK K
      refine l_at hF rfl rfl rfl (x_assign (hF.tmp 98 rfl)) ?_; clear hF; intro a hF
      refine wpList_nil ?_
      refine hK22 _ _ ?_
      refine wp_seq_k fun khK23 hK23 => ?_
      refine wp_region_lit ?_
      refine wpList_plain rfl fun K hK => ?_
      refine w_call hF (x_enter Tryd.func19 (by kernel_rfl) rfl (by simp only [List.map_toArray, List.map_cons, List.map_nil] <;> rfl)) (qalive_calls _ (hH.holds 990 _ rfl)) rfl rfl ?_
      rintro _ w ⟨rfl, hm_⟩; refine ⟨_, rfl, ?_⟩; clear hF; intro a hF; have hH := hH.same hm_
      refine hK _ _ ?_; clear hK K
      refine l_at hF rfl rfl rfl (x_move (hF.tmp 99 rfl)) ?_; clear hF; intro a hF
      rw [hy.1] at hF
      refine l_atg hF ((wanted_of hF rfl rfl rfl rfl).trans rfl) rfl rfl (x_move (hF.tmp 15 rfl)) ?_; clear hF; intro a hF
      refine l_atg hF ((wanted_of hF rfl rfl rfl rfl).trans rfl) rfl rfl (x_eql (hF.tmp 101 rfl) rfl) ?_; clear hF; intro a hF
      refine l_at hF rfl rfl rfl (x_pickT (hF.tmp 100 rfl) rfl (hF.tmp 102 rfl)) ?_; clear hF; intro a hF
      refine l_at hF rfl rfl rfl (x_move (hF.tmp 103 rfl)) ?_; clear hF; intro a hF
      refine l_atg hF ((wanted_of hF rfl rfl rfl rfl).trans rfl) rfl rfl (x_move (hF.tmp 16 rfl)) ?_; clear hF; intro a hF
      refine l_at hF rfl rfl rfl (x_pickT (hF.tmp 104 rfl) rfl (hF.tmp 105 rfl)) ?_; clear hF; intro a hF
      refine l_at hF rfl rfl rfl (x_move (hF.tmp 106 rfl)) ?_; clear hF; intro a hF
      rw [hD90.bad hflp.1] at hF
      refine l_atg hF ((wanted_of hF rfl rfl rfl rfl).trans rfl) rfl rfl (x_move (hF.tmp 19 rfl)) ?_; clear hF; intro a hF
      refine l_atg hF ((wanted_of hF rfl rfl rfl rfl).trans rfl) rfl rfl (x_eql (hF.tmp 108 rfl) rfl) ?_; clear hF; intro a hF
      refine l_at hF rfl rfl rfl (x_pickT (hF.tmp 107 rfl) rfl (hF.tmp 109 rfl)) ?_; clear hF; intro a hF
      refine l_at hF rfl rfl rfl (x_assign (hF.tmp 110 rfl)) ?_; clear hF; intro a hF
      refine wpList_nil ?_
      refine hK23 _ _ ?_
      refine wp_ret ?_
      try simp only [Exit.then, Exit.inBlock]
      exact fin_ret hF (res1 (v := .bool true) hF rfl rfl) ⟨rfl, hH.mods⟩
   ·have hk36_6 := hc36; try simp only [Bool.or_eq_true, Bool.and_eq_true, Bool.or_eq_false_iff, Bool.and_eq_false_iff, Bool.not_eq_true', Bool.not_eq_false', decide_eq_true_eq, decide_eq_false_iff_not, Bool.not_true, Bool.not_false] at hc36
    refine wp_skip ?_
    refine hK8 _ _ ?_
    refine wp_seq_k fun khK24 hK24 => ?_
    refine wp_region_lit ?_
    refine l_at hF rfl rfl rfl (x_loadn ty45 (hF.tmp 3 rfl) rfl (blk_whole (hH.at 3 rfl))) ?_; clear hF; intro a hF
    refine wpList_plain rfl fun K hK => ?_
    refine w_call hF (x_enter Tryd.func38 (by kernel_rfl) rfl (by simp only [List.map_toArray, List.map_cons, List.map_nil, hF.tmp 57 rfl] <;> rfl)) (encQ_calls (r := r) _ (hH.holds 990 _ rfl) ((hH.rd 910 rfl)) hb) rfl rfl ?_
    rintro _ w ⟨vr58, rfl, hm_, hr_⟩; refine ⟨_, rfl, ?_⟩; clear hF; intro a hF; have hH := Hp.rowOut hH 58 hm_ hr_; obtain ⟨Ar58, cr58, rfl⟩ := (hH.row 58 rfl).form
    refine hK _ _ ?_; clear hK K
    refine l_at hF rfl rfl rfl (x_move (hF.tmp 58 rfl)) ?_; clear hF; intro a hF
    refine l_at hF rfl rfl rfl (x_extract (hF.tmp 56 rfl) rfl) ?_; clear hF; intro a hF
    refine l_at hF rfl rfl rfl (x_extract (hF.tmp 56 rfl) rfl) ?_; clear hF; intro a hF
    refine l_at hF rfl rfl rfl (x_assign (hF.tmp 59 rfl)) ?_; clear hF; intro a hF
    refine l_at hF rfl rfl rfl (x_assign (hF.tmp 60 rfl)) ?_; clear hF; intro a hF
    refine wpList_nil ?_
    refine hK24 _ _ ?_
    refine wp_seq_k fun khK25 hK25 => ?_
    refine wp_seq_k fun khK26 hK26 => ?_
    refine wp_region_lit ?_
    refine l_at hF rfl rfl rfl (x_move (hF.tmp 13 rfl)) ?_; clear hF; intro a hF
    refine l_at hF rfl rfl rfl (x_neq (hF.tmp 61 rfl) rfl) ?_; clear hF; intro a hF
    refine wpList_nil ?_
    refine hK26 _ _ ?_
    refine wp_cond_split (hF.tmp 62 rfl) (fun hc62 => ?_) (fun hc62 => ?_)
    ·have hk62_7 := hc62; try simp only [Bool.or_eq_true, Bool.and_eq_true, Bool.or_eq_false_iff, Bool.and_eq_false_iff, Bool.not_eq_true', Bool.not_eq_false', decide_eq_true_eq, decide_eq_false_iff_not, Bool.not_true, Bool.not_false] at hc62
     have hr0 := encQE_ne (r := r) hc62
     refine wp_seq_k fun khK27 hK27 => ?_
     refine wp_region_lit ?_
     refine wpList_plain rfl fun K hK => ?_
     refine w_call hF (x_enter Tryd.func19 (by kernel_rfl) rfl (by simp only [List.map_toArray, List.map_cons, List.map_nil] <;> rfl)) (qalive_calls _ (hH.holds 990 _ rfl)) rfl rfl ?_
     rintro _ w ⟨rfl, hm_⟩; refine ⟨_, rfl, ?_⟩; clear hF; intro a hF; have hH := hH.same hm_
     refine hK _ _ ?_; clear hK K
     refine l_at hF rfl rfl rfl (x_move (hF.tmp 63 rfl)) ?_; clear hF; intro a hF
     refine l_atg hF ((wanted_of hF rfl rfl rfl rfl).trans rfl) rfl rfl (x_loadn ty45 (hF.tmp 3 rfl) rfl (blk_whole (hH.at 3 rfl))) ?_; clear hF; intro a hF
     refine wpList_on ((wanted_of hF rfl rfl rfl rfl).trans rfl) fun K hK => ?_
     refine w_call hF (x_enter Tryd.func21 (by kernel_rfl) rfl (by simp only [List.map_toArray, List.map_cons, List.map_nil, hF.tmp 65 rfl] <;> rfl)) (rightQ_calls (r := r) _ (hH.holds 990 _ rfl) ((hH.rd 910 rfl)) hb) rfl rfl ?_
     rintro _ w ⟨rfl, hm_⟩; refine ⟨_, rfl, ?_⟩; clear hF; intro a hF; have hH := hH.same hm_
     refine hK _ _ ?_; clear hK K
     rw [hr0] at hF
     refine l_atg hF ((wanted_of hF rfl rfl rfl rfl).trans rfl) rfl rfl (x_not (hF.tmp 66 rfl)) ?_; clear hF; intro a hF
     refine l_at hF rfl rfl rfl (x_pickT (hF.tmp 64 rfl) rfl (hF.tmp 67 rfl)) ?_; clear hF; intro a hF
     refine l_at hF rfl rfl rfl (x_assign (hF.tmp 68 rfl)) ?_; clear hF; intro a hF
     refine wpList_nil ?_
     refine hK27 _ _ ?_
     refine wp_ret ?_
     try simp only [Exit.then, Exit.inBlock]
     exact fin_ret hF (res1 (v := .bool true) hF rfl rfl) ⟨rfl, hH.mods⟩
    ·have hk62_8 := hc62; try simp only [Bool.or_eq_true, Bool.and_eq_true, Bool.or_eq_false_iff, Bool.and_eq_false_iff, Bool.not_eq_true', Bool.not_eq_false', decide_eq_true_eq, decide_eq_false_iff_not, Bool.not_true, Bool.not_false] at hc62
     have hr := encQE0 (r := r) hc62
     refine wp_skip ?_
     refine hK25 _ _ ?_
     refine wp_seq_k fun khK28 hK28 => ?_
     refine wp_region_lit ?_
     refine l_at hF rfl rfl rfl (x_move (hF.tmp 12 rfl)) ?_; clear hF; intro a hF
     refine wpList_plain rfl fun K hK => ?_
     refine w_call hF (x_enter Tryd.func37 (by kernel_rfl) rfl (by simp only [List.map_toArray, List.map_cons, List.map_nil, hF.tmp 70 rfl] <;> rfl)) (decQ_calls (bs := (encQ r)) _ (hH.holds 990 _ rfl) (Row.rd (ok' := fun k_ => (fun _ => False) k_ ∨ (.slice Ar58 (encQ r).length cr58 : Value).ownBlock = some k_) (hH.row 58 rfl) (fun _ hk_ _ => .inl hk_) (fun _ hk_ => .inr hk_)) (encQ_byte hb)) rfl rfl ?_
     rintro _ w ⟨y, Ao80, co80, oko80, g80, rfl, hm_, h1_, hf_, hD80⟩; refine ⟨_, rfl, ?_⟩; clear hF; intro a hF; have hH := ((hH.same hm_).rdNew 80 (fun i A' hA k hk => hH.inb i A' hA k (.inl hk)) h1_ hf_).1
     refine hK _ _ ?_; clear hK K
     refine l_at hF rfl rfl rfl (x_move (hF.tmp 71 rfl)) ?_; clear hF; intro a hF
     refine l_at hF rfl rfl rfl (x_extract (hF.tmp 69 rfl) rfl) ?_; clear hF; intro a hF
     refine l_at hF rfl rfl rfl (x_extract (hF.tmp 69 rfl) rfl) ?_; clear hF; intro a hF
     refine wpList_plain rfl fun K hK => ?_
     refine w_alloc 14 hF hH rfl ty45 ?_
     clear hF hH; intro a w b14 hF hH
     refine hK _ _ ?_; clear hK K
     refine wpList_plain rfl fun K hK => ?_
     refine w_storeA 14 hH ty45 rfl (hF.tmp 14 rfl) (hF.tmp 72 rfl) rfl (by simp [Value.cells, Value.oneCell']) rfl ?_
     clear hH; intro w hH
     refine hK _ _ ?_; clear hK K
     refine l_at hF rfl rfl rfl (x_assign (hF.tmp 73 rfl)) ?_; clear hF; intro a hF
     refine wpList_nil ?_
     refine hK28 _ _ ?_
     refine wp_seq_k fun khK29 hK29 => ?_
     refine r_start [(3, .blk b3 (.cells #[.string (strOfNums r.client), .int .i64 r.num, .slice Ar0 r.ops.length cr0] 45 (0, 0))), (14, .blk b14 (.cells #[.string (strOfNums y.client), .int .i64 y.num, .slice Ao80 y.ops.length co80] 45 (0, 0)))] (by kernel_rfl) hH fun hH => ?_
     have hS : SL [(3, .blk b3 (.cells #[.string (strOfNums r.client), .int .i64 r.num, .slice Ar0 r.ops.length cr0] 45 (0, 0))), (14, .blk b14 (.cells #[.string (strOfNums y.client), .int .i64 y.num, .slice Ao80 y.ops.length co80] 45 (0, 0)))] _ := SL.of hH (sub_cons (sub_cons (sub_nil _) 14 rfl) 3 rfl)
     have hy := hD80.of hr hb rfl
     refine r_take 0 hF rfl rfl rfl (by kernel_rfl) (by kernel_rfl) (by kernel_rfl) (fun _ _ _ h => h) rfl hS (fun w hS => x_loadn ty45 (hF.tmp 14 rfl) rfl (blk_whole (SL.at_ hS 14 rfl))) rfl ?_; clear hF; intro a hF
     refine r_take 1 hF rfl rfl rfl (by kernel_rfl) (by kernel_rfl) (by kernel_rfl) (fun _ _ _ h => h) rfl hS (fun w hS => x_loadn ty45 (hF.tmp 3 rfl) rfl (blk_whole (SL.at_ hS 3 rfl))) rfl ?_; clear hF; intro a hF
     refine r_do 2 rfl (by kernel_rfl) rfl rfl ?_
     refine w_call hF (x_enter Tryd.func33 (by kernel_rfl) rfl (by simp only [List.map_toArray, List.map_cons, List.map_nil, hF.tmp 75 rfl] <;> rfl)) (toldR_calls (r := r) _ ((hH.rd 910 rfl))) rfl rfl ?_
     rintro _ w ⟨rfl, hm_⟩; refine ⟨_, rfl, ?_⟩; clear hF; intro a hF; have hH := hH.same hm_
     clear hS; have hS : SL _ _ := SL.of hH (sub_cons (sub_cons (sub_nil _) 14 rfl) 3 rfl); refine ⟨hS, ?_⟩
     refine r_do 3 rfl (by kernel_rfl) rfl rfl ?_
     refine w_call hF (x_enter Tryd.func39 (by kernel_rfl) rfl (by simp only [List.map_toArray, List.map_cons, List.map_nil, hF.tmp 74 rfl, hF.tmp 76 rfl] <;> rfl)) (sameQ_calls _ ((hH.rd 80 rfl)) ((hH.rd 910 rfl)) hD80.1 hb) rfl rfl ?_
     rintro _ w ⟨rfl, hm_⟩; refine ⟨_, rfl, ?_⟩; clear hF; intro a hF; have hH := hH.same hm_
     clear hS; have hS : SL _ _ := SL.of hH (sub_cons (sub_cons (sub_nil _) 14 rfl) 3 rfl); refine ⟨hS, ?_⟩
     rw [decide_eq_true hy.2] at hF
     refine r_take 4 hF rfl rfl rfl (by kernel_rfl) (by kernel_rfl) (by kernel_rfl) (fun _ _ _ h => h) rfl hS (fun w hS => x_assign (hF.tmp 77 rfl)) rfl ?_; clear hF; intro a hF
     refine r_end (by kernel_rfl) ?_; clear hS
     refine hK29 _ _ ?_
     refine wp_seq_k fun khK30 hK30 => ?_
     refine wp_region_lit ?_
     have hxp : (0 : Int) < ((encQ r).length : Int) := by have := encQ_pos hr; omega
     have hpk := pk_range (c := at_) hxp
     have hp5 := pk_range (c := at_) (n := 255) (by decide)
     refine l_at hF rfl rfl rfl (x_move (hF.tmp 2 rfl)) ?_; clear hF; intro a hF
     refine l_at hF rfl rfl rfl (x_move (hF.tmp 12 rfl)) ?_; clear hF; intro a hF
     refine l_at hF rfl rfl rfl (x_len_slice Tryd.underlying28 (hF.tmp 79 rfl)) ?_; clear hF; intro a hF
     refine wpList_plain rfl fun K hK => ?_
     refine w_call hF (x_enter Tryd.func40 (by kernel_rfl) rfl (by simp only [List.map_toArray, List.map_cons, List.map_nil, hF.tmp 78 rfl, hF.tmp 80 rfl] <;> rfl)) (pick_calls _ at_ ((encQ r).length : Int) hat hxp) rfl rfl ?_
     rintro _ w ⟨rfl, hm_⟩; refine ⟨_, rfl, ?_⟩; clear hF; intro a hF; have hH := hH.same hm_
     refine hK _ _ ?_; clear hK K
     refine l_at hF rfl rfl rfl (x_assign (hF.tmp 81 rfl)) ?_; clear hF; intro a hF
     refine wpList_nil ?_
     refine hK30 _ _ ?_
     refine wp_seq_k fun khK31 hK31 => ?_
     refine r_start [] (by kernel_rfl) hH fun hH => ?_
     have hS : SL [] _ := SL.of hH (sub_nil _)
     refine r_take 0 hF rfl rfl rfl (by kernel_rfl) (by kernel_rfl) (by kernel_rfl) (fun _ _ _ h => h) rfl hS (fun w hS => x_move (hF.tmp 12 rfl)) rfl ?_; clear hF; intro a hF
     refine r_take 1 hF rfl rfl rfl (by kernel_rfl) (by kernel_rfl) (by kernel_rfl) (fun _ _ _ h => h) rfl hS (fun w hS => x_move (hF.tmp 17 rfl)) rfl ?_; clear hF; intro a hF
     refine r_take 2 hF rfl rfl rfl (by kernel_rfl) (by kernel_rfl) (by kernel_rfl) (fun _ _ _ h => h) rfl hS (fun w hS => x_move (hF.tmp 12 rfl)) rfl ?_; clear hF; intro a hF
     refine r_take 3 hF rfl rfl rfl (by kernel_rfl) (by kernel_rfl) (by kernel_rfl) (fun _ _ _ h => h) rfl hS (fun w hS => x_move (hF.tmp 17 rfl)) rfl ?_; clear hF; intro a hF
     refine r_take 4 hF rfl rfl rfl (by kernel_rfl) (by kernel_rfl) (by kernel_rfl) (fun _ _ _ h => h) rfl hS (fun w hS => x_iaddr_A Tryd.underlying28 ty5 (Row.rd (ok' := fun k_ => (fun _ => False) k_ ∨ (.slice Ar58 (encQ r).length cr58 : Value).ownBlock = some k_) (hH.row 58 rfl) (fun _ hk_ _ => .inl hk_) (fun _ hk_ => .inr hk_)) (hF.tmp 84 rfl) (hF.tmp 85 rfl) (by omega) (by omega) _) rfl ?_; clear hF; intro a hF
     refine r_take 6 hF rfl rfl rfl (by kernel_rfl) (by kernel_rfl) (by kernel_rfl) (fun _ _ _ h => h) rfl hS (fun w hS => x_move (hF.tmp 2 rfl)) rfl ?_; clear hF; intro a hF
     refine r_do2 5 7 rfl rfl (by kernel_rfl) rfl rfl rfl rfl ?_ ?_
     ·
      refine w_at hF (x_load1 ty5 (hF.tmp 86 rfl) ((Row.rd (ok' := fun k_ => False ∨ (Value.slice Ar58 (encQ r).length cr58).ownBlock = some k_) (hH.row 58 rfl) (fun _ h _ => h.elim) (fun _ h => .inr h)).cellA (gi_some (i := pkI at_ ((encQ r).length : Int)) (by omega) (by omega)))) rfl rfl ?_
      clear hF; intro a hF
      clear hS; have hS : SL _ _ := SL.of hH (sub_nil _); refine ⟨hS, ?_⟩
      refine r_do 7 rfl (by kernel_rfl) rfl rfl ?_
      refine w_call hF (x_enter Tryd.func40 (by kernel_rfl) rfl (by simp only [List.map_toArray, List.map_cons, List.map_nil, hF.tmp 88 rfl] <;> rfl)) (pick_calls _ at_ 255 hat (by decide)) rfl rfl ?_
      rintro _ w ⟨rfl, hm_⟩; refine ⟨_, rfl, ?_⟩; clear hF; intro a hF; have hH := hH.same hm_
      clear hS; have hS : SL _ _ := SL.of hH (sub_nil _); refine ⟨hS, ?_⟩
      refine r_take 8 hF rfl rfl rfl (by kernel_rfl) (by kernel_rfl) (by kernel_rfl) (fun _ _ _ h => h) rfl hS (fun w hS => x_add rfl (hF.tmp 89 rfl) (w64 (by omega) (by omega))) rfl ?_; clear hF; intro a hF
      refine r_take 9 hF rfl rfl rfl (by kernel_rfl) (by kernel_rfl) (by kernel_rfl) (fun _ _ _ h => h) rfl hS (fun w hS => x_conv Tryd.underlying5 ⟨_, Tryd.underlying3⟩ (hF.tmp 90 rfl) (wu8 (by omega) (by omega))) rfl ?_; clear hF; intro a hF
      refine r_take 10 hF rfl rfl rfl (by kernel_rfl) (by kernel_rfl) (by kernel_rfl) (fun _ _ _ h => h) rfl hS (fun w hS => x_bits (by simp) (hF.tmp 87 rfl) (hF.tmp 91 rfl) rfl) rfl ?_; clear hF; intro a hF
      refine r_take 11 hF rfl rfl rfl (by kernel_rfl) (by kernel_rfl) (by kernel_rfl) (fun _ _ _ h => h) rfl hS (fun w hS => x_iaddr_A Tryd.underlying28 ty5 (Row.rd (ok' := fun k_ => (fun _ => False) k_ ∨ (.slice Ar58 (encQ r).length cr58 : Value).ownBlock = some k_) (hH.row 58 rfl) (fun _ hk_ _ => .inl hk_) (fun _ hk_ => .inr hk_)) (hF.tmp 82 rfl) (hF.tmp 83 rfl) (by omega) (by omega) _) rfl ?_; clear hF; intro a hF
      refine r_do 12 rfl (by kernel_rfl) rfl rfl ?_
      refine w_storeEl 58 (pkI at_ ((encQ r).length : Int)).toNat 0 (E := Rep.int .u8) (bits .xor .u8 (gi (encQ r) (pkI at_ ((encQ r).length : Int))) (1 + pkI at_ 255)) (fun _ => False) hH ty5 rfl (gi_some (xs := encQ r) (i := pkI at_ ((encQ r).length : Int)) (by omega) (by omega)) (hF.tmp 93 rfl) (hF.tmp 92 rfl) rfl (one1 rfl rfl) (by decide) (fun cs hcs => by rw [show cs = _ from hcs]; rfl) (fun _ h => h) (fun _ h => h.elim) ?_
      clear hH; intro w hH
      clear hS; have hS : SL _ _ := SL.of hH (sub_nil _); refine ⟨hS, ?_⟩
      refine r_end (by kernel_rfl) ?_; clear hS
      refine hK31 _ _ ?_
      refine wp_seq_k fun khK32 hK32 => ?_
      refine wp_region_lit ?_
      have hflp := flip_bad hr hb at_
      have hfl_ : (flipI (encQ r) at_).length = (encQ r).length := List.length_set ..
      rw [show ((encQ r).set (pkI at_ ((encQ r).length : Int)).toNat (bits .xor .u8 (gi (encQ r) (pkI at_ ((encQ r).length : Int))) (1 + pkI at_ 255))) = flipI (encQ r) at_ from rfl, ← hfl_] at hH
      have hF := FrD.add hF hF 12 (v := .slice Ar58 (flipI (encQ r) at_).length cr58) (by rw [hfl_]; rfl)
      refine l_at hF rfl rfl rfl (x_move (hF.tmp 12 rfl)) ?_; clear hF; intro a hF
      refine wpList_plain rfl fun K hK => ?_
      refine w_call hF (x_enter Tryd.func37 (by kernel_rfl) rfl (by simp only [List.map_toArray, List.map_cons, List.map_nil, hF.tmp 95 rfl] <;> rfl)) (decQ_calls (bs := (flipI (encQ r) at_)) _ (hH.holds 990 _ rfl) (Row.rd (ok' := fun k_ => (fun _ => False) k_ ∨ (.slice Ar58 (flipI (encQ r) at_).length cr58 : Value).ownBlock = some k_) (hH.row 58 rfl) (fun _ hk_ _ => .inl hk_) (fun _ hk_ => .inr hk_)) hflp.2) rfl rfl ?_
      rintro _ w ⟨v_, Ao90, co90, oko90, g90, rfl, hm_, h1_, hf_, hD90⟩; refine ⟨_, rfl, ?_⟩; clear hF; intro a hF; have hH := ((hH.same hm_).rdNew 90 (fun i A' hA k hk => hH.inb i A' hA k (.inl hk)) h1_ hf_).1
      refine hK _ _ ?_; clear hK K
      refine l_at hF rfl rfl rfl (x_move (hF.tmp 96 rfl)) ?_; clear hF; intro a hF
      refine l_at hF rfl rfl rfl (x_extract (hF.tmp 94 rfl) rfl) ?_; clear hF; intro a hF
      refine l_at hF rfl rfl rfl (x_extract (hF.tmp 94 rfl) rfl) ?_; clear hF; intro a hF
      refine wpList_plain rfl fun K hK => ?_
      refine w_alloc 18 hF hH rfl ty45 ?_
      clear hF hH; intro a w b18 hF hH
      refine hK _ _ ?_; clear hK K
      refine wpList_plain rfl fun K hK => ?_
      refine w_storeA 18 hH ty45 rfl (hF.tmp 18 rfl) (hF.tmp 97 rfl) rfl (by simp [Value.cells, Value.oneCell']) rfl ?_
      clear hH; intro w hH
      refine hK _ _ ?_; clear hK K
      refine l_at hF rfl rfl rfl (x_assign (hF.tmp 98 rfl)) ?_; clear hF; intro a hF
      refine wpList_nil ?_
      refine hK32 _ _ ?_
      refine wp_seq_k fun khK33 hK33 => ?_
      refine wp_region_lit ?_
      refine wpList_plain rfl fun K hK => ?_
      refine w_call hF (x_enter Tryd.func19 (by kernel_rfl) rfl (by simp only [List.map_toArray, List.map_cons, List.map_nil] <;> rfl)) (qalive_calls _ (hH.holds 990 _ rfl)) rfl rfl ?_
      rintro _ w ⟨rfl, hm_⟩; refine ⟨_, rfl, ?_⟩; clear hF; intro a hF; have hH := hH.same hm_
      refine hK _ _ ?_; clear hK K
      refine l_at hF rfl rfl rfl (x_move (hF.tmp 99 rfl)) ?_; clear hF; intro a hF
      rw [hy.1] at hF
      refine l_atg hF ((wanted_of hF rfl rfl rfl rfl).trans rfl) rfl rfl (x_move (hF.tmp 15 rfl)) ?_; clear hF; intro a hF
      refine l_atg hF ((wanted_of hF rfl rfl rfl rfl).trans rfl) rfl rfl (x_eql (hF.tmp 101 rfl) rfl) ?_; clear hF; intro a hF
      refine l_at hF rfl rfl rfl (x_pickT (hF.tmp 100 rfl) rfl (hF.tmp 102 rfl)) ?_; clear hF; intro a hF
      refine l_at hF rfl rfl rfl (x_move (hF.tmp 103 rfl)) ?_; clear hF; intro a hF
      refine l_atg hF ((wanted_of hF rfl rfl rfl rfl).trans rfl) rfl rfl (x_move (hF.tmp 16 rfl)) ?_; clear hF; intro a hF
      refine l_at hF rfl rfl rfl (x_pickT (hF.tmp 104 rfl) rfl (hF.tmp 105 rfl)) ?_; clear hF; intro a hF
      refine l_at hF rfl rfl rfl (x_move (hF.tmp 106 rfl)) ?_; clear hF; intro a hF
      rw [hD90.bad hflp.1] at hF
      refine l_atg hF ((wanted_of hF rfl rfl rfl rfl).trans rfl) rfl rfl (x_move (hF.tmp 19 rfl)) ?_; clear hF; intro a hF
      refine l_atg hF ((wanted_of hF rfl rfl rfl rfl).trans rfl) rfl rfl (x_eql (hF.tmp 108 rfl) rfl) ?_; clear hF; intro a hF
      refine l_at hF rfl rfl rfl (x_pickT (hF.tmp 107 rfl) rfl (hF.tmp 109 rfl)) ?_; clear hF; intro a hF
      refine l_at hF rfl rfl rfl (x_assign (hF.tmp 110 rfl)) ?_; clear hF; intro a hF
      refine wpList_nil ?_
      refine hK33 _ _ ?_
      refine wp_ret ?_
      try simp only [Exit.then, Exit.inBlock]
      exact fin_ret hF (res1 (v := .bool true) hF rfl rfl) ⟨rfl, hH.mods⟩
     ·
      refine w_call hF (x_enter Tryd.func40 (by kernel_rfl) rfl (by simp only [List.map_toArray, List.map_cons, List.map_nil, hF.tmp 88 rfl] <;> rfl)) (pick_calls _ at_ 255 hat (by decide)) rfl rfl ?_
      rintro _ w ⟨rfl, hm_⟩; refine ⟨_, rfl, ?_⟩; clear hF; intro a hF; have hH := hH.same hm_
      clear hS; have hS : SL _ _ := SL.of hH (sub_nil _); refine ⟨hS, ?_⟩
      refine r_take 8 hF rfl rfl rfl (by kernel_rfl) (by kernel_rfl) (by kernel_rfl) (fun _ _ _ h => h) rfl hS (fun w hS => x_add rfl (hF.tmp 89 rfl) (w64 (by omega) (by omega))) rfl ?_; clear hF; intro a hF
      refine r_take 9 hF rfl rfl rfl (by kernel_rfl) (by kernel_rfl) (by kernel_rfl) (fun _ _ _ h => h) rfl hS (fun w hS => x_conv Tryd.underlying5 ⟨_, Tryd.underlying3⟩ (hF.tmp 90 rfl) (wu8 (by omega) (by omega))) rfl ?_; clear hF; intro a hF
      refine r_do 5 rfl (by kernel_rfl) rfl rfl ?_
      refine w_at hF (x_load1 ty5 (hF.tmp 86 rfl) ((Row.rd (ok' := fun k_ => False ∨ (Value.slice Ar58 (encQ r).length cr58).ownBlock = some k_) (hH.row 58 rfl) (fun _ h _ => h.elim) (fun _ h => .inr h)).cellA (gi_some (i := pkI at_ ((encQ r).length : Int)) (by omega) (by omega)))) rfl rfl ?_
      clear hF; intro a hF
      clear hS; have hS : SL _ _ := SL.of hH (sub_nil _); refine ⟨hS, ?_⟩
      refine r_take 10 hF rfl rfl rfl (by kernel_rfl) (by kernel_rfl) (by kernel_rfl) (fun _ _ _ h => h) rfl hS (fun w hS => x_bits (by simp) (hF.tmp 87 rfl) (hF.tmp 91 rfl) rfl) rfl ?_; clear hF; intro a hF
      refine r_take 11 hF rfl rfl rfl (by kernel_rfl) (by kernel_rfl) (by kernel_rfl) (fun _ _ _ h => h) rfl hS (fun w hS => x_iaddr_A Tryd.underlying28 ty5 (Row.rd (ok' := fun k_ => (fun _ => False) k_ ∨ (.slice Ar58 (encQ r).length cr58 : Value).ownBlock = some k_) (hH.row 58 rfl) (fun _ hk_ _ => .inl hk_) (fun _ hk_ => .inr hk_)) (hF.tmp 82 rfl) (hF.tmp 83 rfl) (by omega) (by omega) _) rfl ?_; clear hF; intro a hF
      refine r_do 12 rfl (by kernel_rfl) rfl rfl ?_
      refine w_storeEl 58 (pkI at_ ((encQ r).length : Int)).toNat 0 (E := Rep.int .u8) (bits .xor .u8 (gi (encQ r) (pkI at_ ((encQ r).length : Int))) (1 + pkI at_ 255)) (fun _ => False) hH ty5 rfl (gi_some (xs := encQ r) (i := pkI at_ ((encQ r).length : Int)) (by omega) (by omega)) (hF.tmp 93 rfl) (hF.tmp 92 rfl) rfl (one1 rfl rfl) (by decide) (fun cs hcs => by rw [show cs = _ from hcs]; rfl) (fun _ h => h) (fun _ h => h.elim) ?_
      clear hH; intro w hH
      clear hS; have hS : SL _ _ := SL.of hH (sub_nil _); refine ⟨hS, ?_⟩
      refine r_end (by kernel_rfl) ?_; clear hS
      refine hK31 _ _ ?_
      refine wp_seq_k fun khK34 hK34 => ?_
      refine wp_region_lit ?_
      have hflp := flip_bad hr hb at_
      have hfl_ : (flipI (encQ r) at_).length = (encQ r).length := List.length_set ..
      rw [show ((encQ r).set (pkI at_ ((encQ r).length : Int)).toNat (bits .xor .u8 (gi (encQ r) (pkI at_ ((encQ r).length : Int))) (1 + pkI at_ 255))) = flipI (encQ r) at_ from rfl, ← hfl_] at hH
      have hF := FrD.add hF hF 12 (v := .slice Ar58 (flipI (encQ r) at_).length cr58) (by rw [hfl_]; rfl)
      refine l_at hF rfl rfl rfl (x_move (hF.tmp 12 rfl)) ?_; clear hF; intro a hF
      refine wpList_plain rfl fun K hK => ?_
      refine w_call hF (x_enter Tryd.func37 (by kernel_rfl) rfl (by simp only [List.map_toArray, List.map_cons, List.map_nil, hF.tmp 95 rfl] <;> rfl)) (decQ_calls (bs := (flipI (encQ r) at_)) _ (hH.holds 990 _ rfl) (Row.rd (ok' := fun k_ => (fun _ => False) k_ ∨ (.slice Ar58 (flipI (encQ r) at_).length cr58 : Value).ownBlock = some k_) (hH.row 58 rfl) (fun _ hk_ _ => .inl hk_) (fun _ hk_ => .inr hk_)) hflp.2) rfl rfl ?_
      rintro _ w ⟨v_, Ao90, co90, oko90, g90, rfl, hm_, h1_, hf_, hD90⟩; refine ⟨_, rfl, ?_⟩; clear hF; intro a hF; have hH := ((hH.same hm_).rdNew 90 (fun i A' hA k hk => hH.inb i A' hA k (.inl hk)) h1_ hf_).1
      refine hK _ _ ?_; clear hK K
      refine l_at hF rfl rfl rfl (x_move (hF.tmp 96 rfl)) ?_; clear hF; intro a hF
      refine l_at hF rfl rfl rfl (x_extract (hF.tmp 94 rfl) rfl) ?_; clear hF; intro a hF
      refine l_at hF rfl rfl rfl (x_extract (hF.tmp 94 rfl) rfl) ?_; clear hF; intro a hF
      refine wpList_plain rfl fun K hK => ?_
      refine w_alloc 18 hF hH rfl ty45 ?_
      clear hF hH; intro a w b18 hF hH
      refine hK _ _ ?_; clear hK K
      refine wpList_plain rfl fun K hK => ?_
      refine w_storeA 18 hH ty45 rfl (hF.tmp 18 rfl) (hF.tmp 97 rfl) rfl (by simp [Value.cells, Value.oneCell']) rfl ?_
      clear hH; intro w hH
      refine hK _ _ ?_; clear hK K
      refine l_at hF rfl rfl rfl (x_assign (hF.tmp 98 rfl)) ?_; clear hF; intro a hF
      refine wpList_nil ?_
      refine hK34 _ _ ?_
      refine wp_seq_k fun khK35 hK35 => ?_
      refine wp_region_lit ?_
      refine wpList_plain rfl fun K hK => ?_
      refine w_call hF (x_enter Tryd.func19 (by kernel_rfl) rfl (by simp only [List.map_toArray, List.map_cons, List.map_nil] <;> rfl)) (qalive_calls _ (hH.holds 990 _ rfl)) rfl rfl ?_
      rintro _ w ⟨rfl, hm_⟩; refine ⟨_, rfl, ?_⟩; clear hF; intro a hF; have hH := hH.same hm_
      refine hK _ _ ?_; clear hK K
      refine l_at hF rfl rfl rfl (x_move (hF.tmp 99 rfl)) ?_; clear hF; intro a hF
      rw [hy.1] at hF
      refine l_atg hF ((wanted_of hF rfl rfl rfl rfl).trans rfl) rfl rfl (x_move (hF.tmp 15 rfl)) ?_; clear hF; intro a hF
      refine l_atg hF ((wanted_of hF rfl rfl rfl rfl).trans rfl) rfl rfl (x_eql (hF.tmp 101 rfl) rfl) ?_; clear hF; intro a hF
      refine l_at hF rfl rfl rfl (x_pickT (hF.tmp 100 rfl) rfl (hF.tmp 102 rfl)) ?_; clear hF; intro a hF
      refine l_at hF rfl rfl rfl (x_move (hF.tmp 103 rfl)) ?_; clear hF; intro a hF
      refine l_atg hF ((wanted_of hF rfl rfl rfl rfl).trans rfl) rfl rfl (x_move (hF.tmp 16 rfl)) ?_; clear hF; intro a hF
      refine l_at hF rfl rfl rfl (x_pickT (hF.tmp 104 rfl) rfl (hF.tmp 105 rfl)) ?_; clear hF; intro a hF
      refine l_at hF rfl rfl rfl (x_move (hF.tmp 106 rfl)) ?_; clear hF; intro a hF
      rw [hD90.bad hflp.1] at hF
      refine l_atg hF ((wanted_of hF rfl rfl rfl rfl).trans rfl) rfl rfl (x_move (hF.tmp 19 rfl)) ?_; clear hF; intro a hF
      refine l_atg hF ((wanted_of hF rfl rfl rfl rfl).trans rfl) rfl rfl (x_eql (hF.tmp 108 rfl) rfl) ?_; clear hF; intro a hF
      refine l_at hF rfl rfl rfl (x_pickT (hF.tmp 107 rfl) rfl (hF.tmp 109 rfl)) ?_; clear hF; intro a hF
      refine l_at hF rfl rfl rfl (x_assign (hF.tmp 110 rfl)) ?_; clear hF; intro a hF
      refine wpList_nil ?_
      refine hK35 _ _ ?_
      refine wp_ret ?_
      try simp only [Exit.then, Exit.inBlock]
      exact fin_ret hF (res1 (v := .bool true) hF rfl rfl) ⟨rfl, hH.mods⟩
end Go.Proofs.YtiiklnghnifmjaaDoor.Act
