/- No table, walked. -/
import Derived.Test.YtiiklnghnifmjaaDoorSesA
import Derived.Test.YtiiklnghnifmjaaDoorSac
set_option linter.unusedVariables false
set_option linter.unusedSimpArgs false
namespace Go.Proofs.YtiiklnghnifmjaaDoor.Act
open Go.RowKit Go.Proofs.YtiiklnghnifmjaaDoor.Sx Go.Proofs.YtiiklnghnifmjaaDoor.Cod Go.Proofs.YtiiklnghnifmjaaDoor.Num
theorem ty60 : TyI Tryd.prog 60 (.slice none 0 0) 1 24 false := ⟨by kernel_rfl, _, Tryd.underlying60, rfl⟩
theorem ty62 : TyI Tryd.prog 62 (.agg #[.int .i64 0, .int .i64 0, .slice none 0 0]) 3 40 true := ⟨by kernel_rfl, _, Tryd.underlying62, rfl⟩
theorem ty64 : TyI Tryd.prog 64 (.agg #[.int .i64 0, .string (strOfNums []), .int .i64 0, .slice none 0 0, .int .i64 0, .int .i64 0, .slice none 0 0]) 7 96 true := ⟨by kernel_rfl, _, Tryd.underlying64, rfl⟩
set_option maxRecDepth 100000 in
set_option maxHeartbeats 1000000 in
theorem fitsX_calls (w0 : World) {x : SActD} {okx0 : Nat → Prop} {Ax0 : Option Addr} {cx0 : Nat} (hrx0 : Rd OpdE w0 okx0 Ax0 x.req.ops cx0) {okx1 : Nat → Prop} {Ax1 : Option Addr} {cx1 : Nat} (hrx1 : Rd ResE w0 okx1 Ax1 x.ans.results cx1) : Calls Tryd.prog 26 #[.agg #[.int .i64 x.kind, .string (strOfNums x.req.client), .int .i64 x.req.num, .slice Ax0 x.req.ops.length cx0, .int .i64 x.ans.outcome, .int .i64 x.ans.err, .slice Ax1 x.ans.results.length cx1]] w0 fun e w' => ∃ b : Bool, e = .returned (.bool b) ∧ Mods (fun _ => False) w0 w' := by
  refine calls_of_wp Tryd.func26 rfl ?_
  have hF := Fr.enter #[.agg #[.int .i64 x.kind, .string (strOfNums x.req.client), .int .i64 x.req.num, .slice Ax0 x.req.ops.length cx0, .int .i64 x.ans.outcome, .int .i64 x.ans.err, .slice Ax1 x.ans.results.length cx1]] 15 (slotsOf [.agg #[.int .i64 x.kind, .string (strOfNums x.req.client), .int .i64 x.req.num, .slice Ax0 x.req.ops.length cx0, .int .i64 x.ans.outcome, .int .i64 x.ans.err, .slice Ax1 x.ans.results.length cx1]] 0) (Nat.le_of_ble_eq_true rfl) (fun i v h => by have h2 := (get_slotsOf _ 0 i v h).2; simpa only [List.getElem?_toArray, Nat.sub_zero] using h2)
  have hH := Hp.nil (fun _ => False) w0
  rw [Tryd.ntmps26]
  revert hF; generalize (⟨(#[.agg #[.int .i64 x.kind, .string (strOfNums x.req.client), .int .i64 x.req.num, .slice Ax0 x.req.ops.length cx0, .int .i64 x.ans.outcome, .int .i64 x.ans.err, .slice Ax1 x.ans.results.length cx1]] : Array Value) ++ Array.replicate (15 - (#[.agg #[.int .i64 x.kind, .string (strOfNums x.req.client), .int .i64 x.req.num, .slice Ax0 x.req.ops.length cx0, .int .i64 x.ans.outcome, .int .i64 x.ans.err, .slice Ax1 x.ans.results.length cx1]] : Array Value).size) undef, []⟩ : Act) = a; intro hF
  have hH := hH.arg 900 hrx0.all (fun _ h => ⟨h, fun h => h⟩)
  have hlex0 := hrx0.le; unfold maxLen at hlex0
  have hH := hH.arg 901 hrx1.all (fun _ h => ⟨h, fun h => h⟩)
  have hlex1 := hrx1.le; unfold maxLen at hlex1
  refine wp_seq_k fun khK1 hK1 => ?_
  refine wp_region_lit ?_
  refine wpList_plain rfl fun K hK => ?_
  refine w_box 1 hF hH rfl (hF.tmp 0 rfl) ?_
  clear hF hH; intro a w b1 hF hH
  refine hK _ _ ?_; clear hK K
  refine l_at hF rfl rfl rfl (x_assign rfl) ?_; clear hF; intro a hF
  refine wpList_nil ?_
  refine hK1 _ _ ?_
  refine wp_seq_k fun khK2 hK2 => ?_
  refine wp_region_lit ?_
  refine l_at hF rfl rfl rfl (x_faddr Tryd.underlying64 rfl ty45 (by decide) (hF.tmp 1 rfl) rfl) ?_; clear hF; intro a hF
  refine l_at hF rfl rfl rfl (x_loadn (cs := #[.string (strOfNums x.req.client), .int .i64 x.req.num, .slice Ax0 x.req.ops.length cx0]) ty45 (hF.tmp 4 rfl) rfl (blk_sub (hH.at 1 rfl) 1 3 rfl)) ?_; clear hF; intro a hF
  refine wpList_plain rfl fun K hK => ?_
  refine w_call hF (x_enter Tryd.func18 (by kernel_rfl) rfl (by simp only [List.map_toArray, List.map_cons, List.map_nil, hF.tmp 5 rfl] <;> rfl)) (fitsQ_calls (r := x.req) _ ((hH.rd 900 rfl))) rfl rfl ?_
  rintro _ w ⟨bq_, rfl, hm_⟩; refine ⟨_, rfl, ?_⟩; clear hF; intro a hF; have hH := hH.same hm_
  refine hK _ _ ?_; clear hK K
  refine l_at hF rfl rfl rfl (x_assign (hF.tmp 6 rfl)) ?_; clear hF; intro a hF
  refine wpList_nil ?_
  refine hK2 _ _ ?_
  refine wp_seq_k fun khK3 hK3 => ?_
  refine wp_region_lit ?_
  refine l_at hF rfl rfl rfl (x_move (hF.tmp 3 rfl)) ?_; clear hF; intro a hF
  refine l_at hF rfl rfl rfl (x_move (hF.tmp 7 rfl)) ?_; clear hF; intro a hF
  refine split_bool hF 8 rfl (fun hb8 => ?_) (fun hb8 => ?_)
  · have hc8 := hb8; try simp only [Bool.or_eq_true, Bool.and_eq_true, Bool.or_eq_false_iff, Bool.and_eq_false_iff, Bool.not_eq_true', Bool.not_eq_false', decide_eq_true_eq, decide_eq_false_iff_not, Bool.not_true, Bool.not_false] at hc8
    refine l_atg hF ((wanted_of hF rfl rfl rfl rfl).trans (by rw [hb8]; rfl)) rfl rfl (x_faddr Tryd.underlying64 rfl ty62 (by decide) (hF.tmp 1 rfl) rfl) ?_; clear hF; intro a hF
    refine l_atg hF ((wanted_of hF rfl rfl rfl rfl).trans (by rw [hb8]; rfl)) rfl rfl (x_faddr Tryd.underlying62 rfl ty60 (by decide) (hF.tmp 9 rfl) rfl) ?_; clear hF; intro a hF
    refine l_atg hF ((wanted_of hF rfl rfl rfl rfl).trans (by rw [hb8]; rfl)) rfl rfl (x_load1 ty60 (hF.tmp 10 rfl) (blk_cell (hH.at 1 rfl) 6 rfl)) ?_; clear hF; intro a hF
    refine l_atg hF ((wanted_of hF rfl rfl rfl rfl).trans (by rw [hb8]; rfl)) rfl rfl (x_len_slice Tryd.underlying60 (hF.tmp 11 rfl)) ?_; clear hF; intro a hF
    refine l_atg hF ((wanted_of hF rfl rfl rfl rfl).trans (by rw [hb8]; rfl)) rfl rfl (x_leq (hF.tmp 12 rfl) rfl) ?_; clear hF; intro a hF
    refine l_at hF rfl rfl rfl (x_pickT (hF.tmp 8 rfl) hb8 (hF.tmp 13 rfl)) ?_; clear hF; intro a hF
    refine l_at hF rfl rfl rfl (x_assign (hF.tmp 14 rfl)) ?_; clear hF; intro a hF
    refine wpList_nil ?_
    refine hK3 _ _ ?_
    refine wp_ret ?_
    try simp only [Exit.then, Exit.inBlock]
    exact fin_ret hF (res1 (v := .bool (decide ((x.ans.results.length : Int) ≤ 40))) hF rfl rfl) ⟨_, rfl, hH.mods⟩
  · have hc8 := hb8; try simp only [Bool.or_eq_true, Bool.and_eq_true, Bool.or_eq_false_iff, Bool.and_eq_false_iff, Bool.not_eq_true', Bool.not_eq_false', decide_eq_true_eq, decide_eq_false_iff_not, Bool.not_true, Bool.not_false] at hc8
    refine l_offg hF ((wanted_of hF rfl rfl rfl rfl).trans (by rw [hb8]; rfl)) rfl rfl ?_; clear hF; intro a hF
    refine l_offg hF ((wanted_of hF rfl rfl rfl rfl).trans (by rw [hb8]; rfl)) rfl rfl ?_; clear hF; intro a hF
    refine l_offg hF ((wanted_of hF rfl rfl rfl rfl).trans (by rw [hb8]; rfl)) rfl rfl ?_; clear hF; intro a hF
    refine l_offg hF ((wanted_of hF rfl rfl rfl rfl).trans (by rw [hb8]; rfl)) rfl rfl ?_; clear hF; intro a hF
    refine l_offg hF ((wanted_of hF rfl rfl rfl rfl).trans (by rw [hb8]; rfl)) rfl rfl ?_; clear hF; intro a hF
    refine l_at hF rfl rfl rfl (x_pickF (hF.tmp 8 rfl) hb8 rfl) ?_; clear hF; intro a hF
    refine l_at hF rfl rfl rfl (x_assign (hF.tmp 14 rfl)) ?_; clear hF; intro a hF
    refine wpList_nil ?_
    refine hK3 _ _ ?_
    refine wp_ret ?_
    try simp only [Exit.then, Exit.inBlock]
    exact fin_ret hF (res1 (v := .bool false) hF rfl rfl) ⟨_, rfl, hH.mods⟩

set_option maxRecDepth 100000 in
set_option maxHeartbeats 1000000 in
theorem askN_calls (w0 : World) {r : SReqD} {okr0 : Nat → Prop} {Ar0 : Option Addr} {cr0 : Nat} (hrr0 : Rd OpdE w0 okr0 Ar0 r.ops cr0) : Calls Tryd.prog 27 #[.pointer none, .agg #[.string (strOfNums r.client), .int .i64 r.num, .slice Ar0 r.ops.length cr0]] w0 fun e w' => e = .returned (.tuple #[.agg #[.int .i64 0, .int .i64 0, .slice none 0 0], .bool false, .int .i64 1]) ∧ Mods (fun _ => False) w0 w' := by
  refine calls_of_wp Tryd.func27 rfl ?_
  have hF := Fr.enter #[.pointer none, .agg #[.string (strOfNums r.client), .int .i64 r.num, .slice Ar0 r.ops.length cr0]] 70 (slotsOf [.pointer none, .agg #[.string (strOfNums r.client), .int .i64 r.num, .slice Ar0 r.ops.length cr0]] 0) (Nat.le_of_ble_eq_true rfl) (fun i v h => by have h2 := (get_slotsOf _ 0 i v h).2; simpa only [List.getElem?_toArray, Nat.sub_zero] using h2)
  have hH := Hp.nil (fun _ => False) w0
  rw [Tryd.ntmps27]
  revert hF; generalize (⟨(#[.pointer none, .agg #[.string (strOfNums r.client), .int .i64 r.num, .slice Ar0 r.ops.length cr0]] : Array Value) ++ Array.replicate (70 - (#[.pointer none, .agg #[.string (strOfNums r.client), .int .i64 r.num, .slice Ar0 r.ops.length cr0]] : Array Value).size) undef, []⟩ : Act) = a; intro hF
  have hH := hH.arg 900 hrr0.all (fun _ h => ⟨h, fun h => h⟩)
  have hler0 := hrr0.le; unfold maxLen at hler0
  refine wp_seq_k fun khK1 hK1 => ?_
  refine wp_region_lit ?_
  refine wpList_plain rfl fun K hK => ?_
  refine w_box 3 hF hH rfl (hF.tmp 1 rfl) ?_
  clear hF hH; intro a w b3 hF hH
  refine hK _ _ ?_; clear hK K
  refine wpList_plain rfl fun K hK => ?_
  refine w_alloc 4 hF hH rfl ty62 ?_
  clear hF hH; intro a w b4 hF hH
  refine hK _ _ ?_; clear hK K
  refine l_at hF rfl rfl rfl (x_assign rfl) ?_; clear hF; intro a hF
  refine l_at hF rfl rfl rfl (x_assign rfl) ?_; clear hF; intro a hF
  refine wpList_nil ?_
  refine hK1 _ _ ?_
  refine wp_seq_k fun khK2 hK2 => ?_
  refine wp_block ?_
  refine wp_seq_k fun khK3 hK3 => ?_
  refine wp_region_lit ?_
  refine l_at hF rfl rfl rfl (x_move (hF.tmp 0 rfl)) ?_; clear hF; intro a hF
  refine l_at hF rfl rfl rfl (x_ptrnil Tryd.underlying58 (hF.tmp 10 rfl) rfl) ?_; clear hF; intro a hF
  refine l_at hF rfl rfl rfl (x_assign (hF.tmp 11 rfl)) ?_; clear hF; intro a hF
  refine wpList_nil ?_
  refine hK3 _ _ ?_
  refine wp_cond_true (hF.tmp 9 rfl) ?_
  refine wp_seq_k fun khK4 hK4 => ?_
  refine wp_region_lit ?_
  refine l_at hF rfl rfl rfl (x_buildS (cells := #[.int .i64 0, .int .i64 0, .slice none 0 0]) (places := #[(0, 1), (1, 1), (2, 1)]) Tryd.underlying62 ty62 (by kernel_rfl) Array.map_empty rfl) ?_; clear hF; intro a hF
  refine wpList_plain rfl fun K hK => ?_
  refine w_storeA 4 hH ty62 rfl (hF.tmp 4 rfl) (hF.tmp 12 rfl) rfl (by simp [Value.cells, Value.oneCell']) rfl ?_
  clear hH; intro w hH
  refine hK _ _ ?_; clear hK K
  refine l_at hF rfl rfl rfl (x_assign rfl) ?_; clear hF; intro a hF
  refine l_at hF rfl rfl rfl (x_assign rfl) ?_; clear hF; intro a hF
  refine wpList_nil ?_
  refine hK4 _ _ ?_
  refine wp_ret ?_
  try simp only [Exit.then, Exit.inBlock]
  exact fin_ret hF (resctt hF rfl rfl rfl rfl (hH.at 4 rfl) ty62 rfl) ⟨rfl, hH.mods⟩

set_option maxRecDepth 100000 in
set_option maxHeartbeats 1000000 in
theorem lastN_calls (w0 : World) (s : ByteArray) : Calls Tryd.prog 31 #[.pointer none, .string s] w0 fun e w' => e = .returned (.tuple #[.int .i64 0, .bool false]) ∧ Mods (fun _ => False) w0 w' := by
  refine calls_of_wp Tryd.func31 rfl ?_
  have hF := Fr.enter #[.pointer none, .string s] 19 (slotsOf [.pointer none, .string s] 0) (Nat.le_of_ble_eq_true rfl) (fun i v h => by have h2 := (get_slotsOf _ 0 i v h).2; simpa only [List.getElem?_toArray, Nat.sub_zero] using h2)
  have hH := Hp.nil (fun _ => False) w0
  rw [Tryd.ntmps31]
  revert hF; generalize (⟨(#[.pointer none, .string s] : Array Value) ++ Array.replicate (19 - (#[.pointer none, .string s] : Array Value).size) undef, []⟩ : Act) = a; intro hF
  refine wp_seq_k fun khK1 hK1 => ?_
  refine wp_region_lit ?_
  refine l_at hF rfl rfl rfl (x_assign rfl) ?_; clear hF; intro a hF
  refine l_at hF rfl rfl rfl (x_assign rfl) ?_; clear hF; intro a hF
  refine wpList_nil ?_
  refine hK1 _ _ ?_
  refine wp_seq_k fun khK2 hK2 => ?_
  refine wp_seq_k fun khK3 hK3 => ?_
  refine wp_region_lit ?_
  refine l_at hF rfl rfl rfl (x_move (hF.tmp 0 rfl)) ?_; clear hF; intro a hF
  refine l_at hF rfl rfl rfl (x_ptrnil Tryd.underlying58 (hF.tmp 7 rfl) rfl) ?_; clear hF; intro a hF
  refine wpList_nil ?_
  refine hK3 _ _ ?_
  refine wp_cond_true (hF.tmp 8 rfl) ?_
  refine wp_seq_k fun khK4 hK4 => ?_
  refine wp_region_lit ?_
  refine l_at hF rfl rfl rfl (x_assign rfl) ?_; clear hF; intro a hF
  refine l_at hF rfl rfl rfl (x_assign rfl) ?_; clear hF; intro a hF
  refine wpList_nil ?_
  refine hK4 _ _ ?_
  refine wp_ret ?_
  try simp only [Exit.then, Exit.inBlock]
  exact fin_ret hF (res2 hF rfl rfl rfl) ⟨rfl, hH.mods⟩

set_option maxRecDepth 100000 in
set_option maxHeartbeats 1000000 in
theorem finishN_calls (w0 : World) (s : ByteArray) (n : Int) {y : AnswerD} {oky0 : Nat → Prop} {Ay0 : Option Addr} {cy0 : Nat} (hry0 : Rd ResE w0 oky0 Ay0 y.results cy0) : Calls Tryd.prog 30 #[.pointer none, .string s, .int .i64 n, .agg #[.int .i64 y.outcome, .int .i64 y.err, .slice Ay0 y.results.length cy0]] w0 fun e w' => e = .returned (.int .i64 1) ∧ Mods (fun _ => False) w0 w' := by
  refine calls_of_wp Tryd.func30 rfl ?_
  have hF := Fr.enter #[.pointer none, .string s, .int .i64 n, .agg #[.int .i64 y.outcome, .int .i64 y.err, .slice Ay0 y.results.length cy0]] 43 (slotsOf [.pointer none, .string s, .int .i64 n, .agg #[.int .i64 y.outcome, .int .i64 y.err, .slice Ay0 y.results.length cy0]] 0) (Nat.le_of_ble_eq_true rfl) (fun i v h => by have h2 := (get_slotsOf _ 0 i v h).2; simpa only [List.getElem?_toArray, Nat.sub_zero] using h2)
  have hH := Hp.nil (fun _ => False) w0
  rw [Tryd.ntmps30]
  revert hF; generalize (⟨(#[.pointer none, .string s, .int .i64 n, .agg #[.int .i64 y.outcome, .int .i64 y.err, .slice Ay0 y.results.length cy0]] : Array Value) ++ Array.replicate (43 - (#[.pointer none, .string s, .int .i64 n, .agg #[.int .i64 y.outcome, .int .i64 y.err, .slice Ay0 y.results.length cy0]] : Array Value).size) undef, []⟩ : Act) = a; intro hF
  have hH := hH.arg 900 hry0.all (fun _ h => ⟨h, fun h => h⟩)
  have hley0 := hry0.le; unfold maxLen at hley0
  refine wp_seq_k fun khK1 hK1 => ?_
  refine wp_region_lit ?_
  refine wpList_plain rfl fun K hK => ?_
  refine w_box 7 hF hH rfl (hF.tmp 3 rfl) ?_
  clear hF hH; intro a w b7 hF hH
  refine hK _ _ ?_; clear hK K
  refine l_at hF rfl rfl rfl (x_assign rfl) ?_; clear hF; intro a hF
  refine wpList_nil ?_
  refine hK1 _ _ ?_
  refine wp_seq_k fun khK2 hK2 => ?_
  refine wp_seq_k fun khK3 hK3 => ?_
  refine wp_region_lit ?_
  refine l_at hF rfl rfl rfl (x_move (hF.tmp 0 rfl)) ?_; clear hF; intro a hF
  refine l_at hF rfl rfl rfl (x_ptrnil Tryd.underlying58 (hF.tmp 11 rfl) rfl) ?_; clear hF; intro a hF
  refine wpList_nil ?_
  refine hK3 _ _ ?_
  refine wp_cond_true (hF.tmp 12 rfl) ?_
  refine wp_seq_k fun khK4 hK4 => ?_
  refine wp_region_lit ?_
  refine l_at hF rfl rfl rfl (x_assign rfl) ?_; clear hF; intro a hF
  refine wpList_nil ?_
  refine hK4 _ _ ?_
  refine wp_ret ?_
  try simp only [Exit.then, Exit.inBlock]
  exact fin_ret hF (res1 hF rfl rfl) ⟨rfl, hH.mods⟩

set_option maxRecDepth 100000 in
set_option maxHeartbeats 1000000 in
theorem sNil_calls (w0 : World) {pp : Bool} (hL : LibAt pp w0) {x : SActD} {okx0 : Nat → Prop} {Ax0 : Option Addr} {cx0 : Nat} (hrx0 : Rd OpdE w0 okx0 Ax0 x.req.ops cx0) {okx1 : Nat → Prop} {Ax1 : Option Addr} {cx1 : Nat} (hrx1 : Rd ResE w0 okx1 Ax1 x.ans.results cx1) : Calls Tryd.prog 7 #[.agg #[.int .i64 x.kind, .string (strOfNums x.req.client), .int .i64 x.req.num, .slice Ax0 x.req.ops.length cx0, .int .i64 x.ans.outcome, .int .i64 x.ans.err, .slice Ax1 x.ans.results.length cx1]] w0 fun e w' => e = .returned (.bool true) ∧ Mods (fun _ => False) w0 w' := by
  refine calls_of_wp Tryd.func7 rfl ?_
  have hF := Fr.enter #[.agg #[.int .i64 x.kind, .string (strOfNums x.req.client), .int .i64 x.req.num, .slice Ax0 x.req.ops.length cx0, .int .i64 x.ans.outcome, .int .i64 x.ans.err, .slice Ax1 x.ans.results.length cx1]] 66 (slotsOf [.agg #[.int .i64 x.kind, .string (strOfNums x.req.client), .int .i64 x.req.num, .slice Ax0 x.req.ops.length cx0, .int .i64 x.ans.outcome, .int .i64 x.ans.err, .slice Ax1 x.ans.results.length cx1]] 0) (Nat.le_of_ble_eq_true rfl) (fun i v h => by have h2 := (get_slotsOf _ 0 i v h).2; simpa only [List.getElem?_toArray, Nat.sub_zero] using h2)
  have hH := Hp.nil (fun _ => False) w0
  rw [Tryd.ntmps7]
  revert hF; generalize (⟨(#[.agg #[.int .i64 x.kind, .string (strOfNums x.req.client), .int .i64 x.req.num, .slice Ax0 x.req.ops.length cx0, .int .i64 x.ans.outcome, .int .i64 x.ans.err, .slice Ax1 x.ans.results.length cx1]] : Array Value) ++ Array.replicate (66 - (#[.agg #[.int .i64 x.kind, .string (strOfNums x.req.client), .int .i64 x.req.num, .slice Ax0 x.req.ops.length cx0, .int .i64 x.ans.outcome, .int .i64 x.ans.err, .slice Ax1 x.ans.results.length cx1]] : Array Value).size) undef, []⟩ : Act) = a; intro hF
  have hH := hH.arg 900 hrx0.all (fun _ h => ⟨h, fun h => h⟩)
  have hlex0 := hrx0.le; unfold maxLen at hlex0
  have hH := hH.arg 901 hrx1.all (fun _ h => ⟨h, fun h => h⟩)
  have hlex1 := hrx1.le; unfold maxLen at hlex1
  have hH := hH.libN 990 hL
  refine wp_seq_k fun khK1 hK1 => ?_
  refine wp_region_lit ?_
  refine wpList_plain rfl fun K hK => ?_
  refine w_box 1 hF hH rfl (hF.tmp 0 rfl) ?_
  clear hF hH; intro a w b1 hF hH
  refine hK _ _ ?_; clear hK K
  refine l_at hF rfl rfl rfl (x_assign rfl) ?_; clear hF; intro a hF
  refine wpList_nil ?_
  refine hK1 _ _ ?_
  refine wp_seq_k fun khK2 hK2 => ?_
  refine wp_region_lit ?_
  refine l_at hF rfl rfl rfl (x_loadn ty64 (hF.tmp 1 rfl) rfl (blk_whole (hH.at 1 rfl))) ?_; clear hF; intro a hF
  refine wpList_plain rfl fun K hK => ?_
  refine w_call hF (x_enter Tryd.func26 (by kernel_rfl) rfl (by simp only [List.map_toArray, List.map_cons, List.map_nil, hF.tmp 10 rfl] <;> rfl)) (fitsX_calls (x := x) _ ((hH.rd 900 rfl)) ((hH.rd 901 rfl))) rfl rfl ?_
  rintro _ w ⟨bf_, rfl, hm_⟩; refine ⟨_, rfl, ?_⟩; clear hF; intro a hF; have hH := hH.same hm_
  refine hK _ _ ?_; clear hK K
  refine l_at hF rfl rfl rfl (x_assign (hF.tmp 11 rfl)) ?_; clear hF; intro a hF
  refine wpList_nil ?_
  refine hK2 _ _ ?_
  refine wp_seq_k fun khK3 hK3 => ?_
  refine wp_seq_k fun khK4 hK4 => ?_
  refine wp_region_lit ?_
  refine l_at hF rfl rfl rfl (x_move (hF.tmp 3 rfl)) ?_; clear hF; intro a hF
  refine l_at hF rfl rfl rfl (x_not (hF.tmp 12 rfl)) ?_; clear hF; intro a hF
  refine wpList_nil ?_
  refine hK4 _ _ ?_
  refine wp_cond_split (hF.tmp 13 rfl) (fun hc13 => ?_) (fun hc13 => ?_)
  · have hk13_1 := hc13; try simp only [Bool.or_eq_true, Bool.and_eq_true, Bool.or_eq_false_iff, Bool.and_eq_false_iff, Bool.not_eq_true', Bool.not_eq_false', decide_eq_true_eq, decide_eq_false_iff_not, Bool.not_true, Bool.not_false] at hc13
    refine wp_seq_k fun khK5 hK5 => ?_
    refine wp_region_lit ?_
    refine wpList_plain rfl fun K hK => ?_
    refine w_call hF (x_enter Tryd.func19 (by kernel_rfl) rfl (by simp only [List.map_toArray, List.map_cons, List.map_nil] <;> rfl)) (qalive_calls _ (hH.holds 990 _ rfl)) rfl rfl ?_
    rintro _ w ⟨rfl, hm_⟩; refine ⟨_, rfl, ?_⟩; clear hF; intro a hF; have hH := hH.same hm_
    refine hK _ _ ?_; clear hK K
    refine l_at hF rfl rfl rfl (x_assign (hF.tmp 14 rfl)) ?_; clear hF; intro a hF
    refine wpList_nil ?_
    refine hK5 _ _ ?_
    refine wp_ret ?_
    try simp only [Exit.then, Exit.inBlock]
    exact fin_ret hF (res1 (v := .bool true) hF rfl rfl) ⟨rfl, hH.mods⟩
  · have hk13_2 := hc13; try simp only [Bool.or_eq_true, Bool.and_eq_true, Bool.or_eq_false_iff, Bool.and_eq_false_iff, Bool.not_eq_true', Bool.not_eq_false', decide_eq_true_eq, decide_eq_false_iff_not, Bool.not_true, Bool.not_false] at hc13
    refine wp_skip ?_
    refine hK3 _ _ ?_
    refine wp_seq_k fun khK6 hK6 => ?_
    refine wp_region_lit ?_
    refine l_at hF rfl rfl rfl (x_assign rfl) ?_; clear hF; intro a hF
    refine wpList_nil ?_
    refine hK6 _ _ ?_
    refine wp_seq_k fun khK7 hK7 => ?_
    refine wp_region_lit ?_
    refine l_at hF rfl rfl rfl (x_move (hF.tmp 4 rfl)) ?_; clear hF; intro a hF
    refine l_at hF rfl rfl rfl (x_faddr Tryd.underlying64 rfl ty45 (by decide) (hF.tmp 1 rfl) rfl) ?_; clear hF; intro a hF
    refine l_at hF rfl rfl rfl (x_loadn (cs := #[.string (strOfNums x.req.client), .int .i64 x.req.num, .slice Ax0 x.req.ops.length cx0]) ty45 (hF.tmp 17 rfl) rfl (blk_sub (hH.at 1 rfl) 1 3 rfl)) ?_; clear hF; intro a hF
    refine wpList_plain rfl fun K hK => ?_
    refine w_call hF (x_enter Tryd.func27 (by kernel_rfl) rfl (by simp only [List.map_toArray, List.map_cons, List.map_nil, hF.tmp 16 rfl, hF.tmp 18 rfl] <;> rfl)) (askN_calls (r := x.req) _ ((hH.rd 900 rfl))) rfl rfl ?_
    rintro _ w ⟨rfl, hm_⟩; refine ⟨_, rfl, ?_⟩; clear hF; intro a hF; have hH := hH.same hm_
    refine hK _ _ ?_; clear hK K
    refine l_at hF rfl rfl rfl (x_move (hF.tmp 19 rfl)) ?_; clear hF; intro a hF
    refine l_at hF rfl rfl rfl (x_extract (hF.tmp 15 rfl) rfl) ?_; clear hF; intro a hF
    refine l_at hF rfl rfl rfl (x_extract (hF.tmp 15 rfl) rfl) ?_; clear hF; intro a hF
    refine l_at hF rfl rfl rfl (x_extract (hF.tmp 15 rfl) rfl) ?_; clear hF; intro a hF
    refine wpList_plain rfl fun K hK => ?_
    refine w_alloc 5 hF hH rfl ty62 ?_
    clear hF hH; intro a w b5 hF hH
    refine hK _ _ ?_; clear hK K
    refine wpList_plain rfl fun K hK => ?_
    refine w_storeA 5 hH ty62 rfl (hF.tmp 5 rfl) (hF.tmp 20 rfl) rfl (by simp [Value.cells, Value.oneCell']) rfl ?_
    clear hH; intro w hH
    refine hK _ _ ?_; clear hK K
    refine l_at hF rfl rfl rfl (x_assign (hF.tmp 21 rfl)) ?_; clear hF; intro a hF
    refine l_at hF rfl rfl rfl (x_assign (hF.tmp 22 rfl)) ?_; clear hF; intro a hF
    refine wpList_nil ?_
    refine hK7 _ _ ?_
    refine wp_seq_k fun khK8 hK8 => ?_
    refine wp_region_lit ?_
    refine l_at hF rfl rfl rfl (x_move (hF.tmp 4 rfl)) ?_; clear hF; intro a hF
    refine l_at hF rfl rfl rfl (x_faddr Tryd.underlying64 rfl ty45 (by decide) (hF.tmp 1 rfl) rfl) ?_; clear hF; intro a hF
    refine l_at hF rfl rfl rfl (x_faddr Tryd.underlying45 rfl ty9 (by decide) (hF.tmp 25 rfl) rfl) ?_; clear hF; intro a hF
    refine l_at hF rfl rfl rfl (x_load1 ty9 (hF.tmp 26 rfl) (blk_cell (hH.at 1 rfl) 1 rfl)) ?_; clear hF; intro a hF
    refine wpList_plain rfl fun K hK => ?_
    refine w_call hF (x_enter Tryd.func31 (by kernel_rfl) rfl (by simp only [List.map_toArray, List.map_cons, List.map_nil, hF.tmp 24 rfl, hF.tmp 27 rfl] <;> rfl)) (lastN_calls _ _) rfl rfl ?_
    rintro _ w ⟨rfl, hm_⟩; refine ⟨_, rfl, ?_⟩; clear hF; intro a hF; have hH := hH.same hm_
    refine hK _ _ ?_; clear hK K
    refine l_at hF rfl rfl rfl (x_move (hF.tmp 28 rfl)) ?_; clear hF; intro a hF
    refine l_at hF rfl rfl rfl (x_extract (hF.tmp 23 rfl) rfl) ?_; clear hF; intro a hF
    refine l_at hF rfl rfl rfl (x_extract (hF.tmp 23 rfl) rfl) ?_; clear hF; intro a hF
    refine l_at hF rfl rfl rfl (x_assign (hF.tmp 29 rfl)) ?_; clear hF; intro a hF
    refine l_at hF rfl rfl rfl (x_assign (hF.tmp 30 rfl)) ?_; clear hF; intro a hF
    refine wpList_nil ?_
    refine hK8 _ _ ?_
    refine wp_seq_k fun khK9 hK9 => ?_
    refine wp_region_lit ?_
    refine wpList_plain rfl fun K hK => ?_
    refine w_call hF (x_enter Tryd.func19 (by kernel_rfl) rfl (by simp only [List.map_toArray, List.map_cons, List.map_nil] <;> rfl)) (qalive_calls _ (hH.holds 990 _ rfl)) rfl rfl ?_
    rintro _ w ⟨rfl, hm_⟩; refine ⟨_, rfl, ?_⟩; clear hF; intro a hF; have hH := hH.same hm_
    refine hK _ _ ?_; clear hK K
    refine l_at hF rfl rfl rfl (x_move (hF.tmp 31 rfl)) ?_; clear hF; intro a hF
    refine l_atg hF ((wanted_of hF rfl rfl rfl rfl).trans rfl) rfl rfl (x_faddr Tryd.underlying62 rfl ty3 (by decide) (hF.tmp 5 rfl) rfl) ?_; clear hF; intro a hF
    refine l_atg hF ((wanted_of hF rfl rfl rfl rfl).trans rfl) rfl rfl (x_load1 ty3 (hF.tmp 33 rfl) (blk_cell (hH.at 5 rfl) 0 rfl)) ?_; clear hF; intro a hF
    refine l_atg hF ((wanted_of hF rfl rfl rfl rfl).trans rfl) rfl rfl (x_eql (hF.tmp 34 rfl) rfl) ?_; clear hF; intro a hF
    refine l_at hF rfl rfl rfl (x_pickT (hF.tmp 32 rfl) rfl (hF.tmp 35 rfl)) ?_; clear hF; intro a hF
    refine l_at hF rfl rfl rfl (x_move (hF.tmp 36 rfl)) ?_; clear hF; intro a hF
    refine l_atg hF ((wanted_of hF rfl rfl rfl rfl).trans rfl) rfl rfl (x_move (hF.tmp 6 rfl)) ?_; clear hF; intro a hF
    refine l_atg hF ((wanted_of hF rfl rfl rfl rfl).trans rfl) rfl rfl (x_not (hF.tmp 38 rfl)) ?_; clear hF; intro a hF
    refine l_at hF rfl rfl rfl (x_pickT (hF.tmp 37 rfl) rfl (hF.tmp 39 rfl)) ?_; clear hF; intro a hF
    refine l_at hF rfl rfl rfl (x_move (hF.tmp 40 rfl)) ?_; clear hF; intro a hF
    refine l_atg hF ((wanted_of hF rfl rfl rfl rfl).trans rfl) rfl rfl (x_move (hF.tmp 7 rfl)) ?_; clear hF; intro a hF
    refine l_atg hF ((wanted_of hF rfl rfl rfl rfl).trans rfl) rfl rfl (x_eql (hF.tmp 42 rfl) rfl) ?_; clear hF; intro a hF
    refine l_at hF rfl rfl rfl (x_pickT (hF.tmp 41 rfl) rfl (hF.tmp 43 rfl)) ?_; clear hF; intro a hF
    refine l_at hF rfl rfl rfl (x_move (hF.tmp 44 rfl)) ?_; clear hF; intro a hF
    refine l_atg hF ((wanted_of hF rfl rfl rfl rfl).trans rfl) rfl rfl (x_move (hF.tmp 8 rfl)) ?_; clear hF; intro a hF
    refine l_atg hF ((wanted_of hF rfl rfl rfl rfl).trans rfl) rfl rfl (x_eql (hF.tmp 46 rfl) rfl) ?_; clear hF; intro a hF
    refine l_at hF rfl rfl rfl (x_pickT (hF.tmp 45 rfl) rfl (hF.tmp 47 rfl)) ?_; clear hF; intro a hF
    refine l_at hF rfl rfl rfl (x_move (hF.tmp 48 rfl)) ?_; clear hF; intro a hF
    refine l_atg hF ((wanted_of hF rfl rfl rfl rfl).trans rfl) rfl rfl (x_move (hF.tmp 9 rfl)) ?_; clear hF; intro a hF
    refine l_atg hF ((wanted_of hF rfl rfl rfl rfl).trans rfl) rfl rfl (x_not (hF.tmp 50 rfl)) ?_; clear hF; intro a hF
    refine l_at hF rfl rfl rfl (x_pickT (hF.tmp 49 rfl) rfl (hF.tmp 51 rfl)) ?_; clear hF; intro a hF
    refine l_at hF rfl rfl rfl (x_move (hF.tmp 52 rfl)) ?_; clear hF; intro a hF
    refine l_atg hF ((wanted_of hF rfl rfl rfl rfl).trans rfl) rfl rfl (x_move (hF.tmp 4 rfl)) ?_; clear hF; intro a hF
    refine l_atg hF ((wanted_of hF rfl rfl rfl rfl).trans rfl) rfl rfl (x_faddr Tryd.underlying64 rfl ty45 (by decide) (hF.tmp 1 rfl) rfl) ?_; clear hF; intro a hF
    refine l_atg hF ((wanted_of hF rfl rfl rfl rfl).trans rfl) rfl rfl (x_faddr Tryd.underlying45 rfl ty9 (by decide) (hF.tmp 55 rfl) rfl) ?_; clear hF; intro a hF
    refine l_atg hF ((wanted_of hF rfl rfl rfl rfl).trans rfl) rfl rfl (x_load1 ty9 (hF.tmp 56 rfl) (blk_cell (hH.at 1 rfl) 1 rfl)) ?_; clear hF; intro a hF
    refine l_atg hF ((wanted_of hF rfl rfl rfl rfl).trans rfl) rfl rfl (x_faddr Tryd.underlying64 rfl ty45 (by decide) (hF.tmp 1 rfl) rfl) ?_; clear hF; intro a hF
    refine l_atg hF ((wanted_of hF rfl rfl rfl rfl).trans rfl) rfl rfl (x_faddr Tryd.underlying45 rfl ty3 (by decide) (hF.tmp 58 rfl) rfl) ?_; clear hF; intro a hF
    refine l_atg hF ((wanted_of hF rfl rfl rfl rfl).trans rfl) rfl rfl (x_load1 ty3 (hF.tmp 59 rfl) (blk_cell (hH.at 1 rfl) 2 rfl)) ?_; clear hF; intro a hF
    refine l_atg hF ((wanted_of hF rfl rfl rfl rfl).trans rfl) rfl rfl (x_faddr Tryd.underlying64 rfl ty62 (by decide) (hF.tmp 1 rfl) rfl) ?_; clear hF; intro a hF
    refine l_atg hF ((wanted_of hF rfl rfl rfl rfl).trans rfl) rfl rfl (x_loadn (cs := #[.int .i64 x.ans.outcome, .int .i64 x.ans.err, .slice Ax1 x.ans.results.length cx1]) ty62 (hF.tmp 61 rfl) rfl (blk_sub (hH.at 1 rfl) 4 3 rfl)) ?_; clear hF; intro a hF
    refine wpList_on ((wanted_of hF rfl rfl rfl rfl).trans rfl) fun K hK => ?_
    refine w_call hF (x_enter Tryd.func30 (by kernel_rfl) rfl (by simp only [List.map_toArray, List.map_cons, List.map_nil, hF.tmp 54 rfl, hF.tmp 57 rfl, hF.tmp 60 rfl, hF.tmp 62 rfl] <;> rfl)) (finishN_calls (y := x.ans) _ _ _ ((hH.rd 901 rfl))) rfl rfl ?_
    rintro _ w ⟨rfl, hm_⟩; refine ⟨_, rfl, ?_⟩; clear hF; intro a hF; have hH := hH.same hm_
    refine hK _ _ ?_; clear hK K
    refine l_atg hF ((wanted_of hF rfl rfl rfl rfl).trans rfl) rfl rfl (x_eql (hF.tmp 63 rfl) rfl) ?_; clear hF; intro a hF
    refine l_at hF rfl rfl rfl (x_pickT (hF.tmp 53 rfl) rfl (hF.tmp 64 rfl)) ?_; clear hF; intro a hF
    refine l_at hF rfl rfl rfl (x_assign (hF.tmp 65 rfl)) ?_; clear hF; intro a hF
    refine wpList_nil ?_
    refine hK9 _ _ ?_
    refine wp_ret ?_
    try simp only [Exit.then, Exit.inBlock]
    exact fin_ret hF (res1 (v := .bool true) hF rfl rfl) ⟨rfl, hH.mods⟩

end Go.Proofs.YtiiklnghnifmjaaDoor.Act
