/- The table of clients, walked. -/
import Derived.Test.YtiiklnghnifmjaaDoorSesAZu
import Derived.Test.YtiiklnghnifmjaaDoorTabDZu
set_option linter.unusedVariables false
set_option linter.unusedSimpArgs false
namespace Go.Proofs.YtiiklnghnifmjaaDoor.Act
open Go.RowKit Go.Proofs.YtiiklnghnifmjaaDoor.Sx Go.Proofs.YtiiklnghnifmjaaDoor.Cod Go.Proofs.YtiiklnghnifmjaaDoor.Num
theorem ty4 : TyI Tryd.prog 4 (.bool false) 1 1 false := ⟨by kernel_rfl, _, Tryd.underlying4, rfl⟩
theorem ty60 : TyI Tryd.prog 60 (.slice none 0 0) 1 24 false := ⟨by kernel_rfl, _, Tryd.underlying60, rfl⟩
theorem ty62 : TyI Tryd.prog 62 (.agg #[.int .i64 0, .int .i64 0, .slice none 0 0]) 3 40 true := ⟨by kernel_rfl, _, Tryd.underlying62, rfl⟩
theorem ty68 : TyI Tryd.prog 68 (.agg #[.int .i64 0, .int .i64 0, .slice none 0 0]) 3 40 true := ⟨by kernel_rfl, _, Tryd.underlying68, rfl⟩
theorem ty84 : TyI Tryd.prog 84 (.agg #[.bool false, .string (strOfNums []), .int .i64 0, .int .u64 0]) 4 40 true := ⟨by kernel_rfl, _, Tryd.underlying84, rfl⟩
theorem ty120 : TyI Tryd.prog 120 (.map none) 1 8 false := ⟨by kernel_rfl, _, Tryd.underlying120, rfl⟩
theorem ty122 : TyI Tryd.prog 122 (.agg #[.map none]) 1 8 true := ⟨by kernel_rfl, _, Tryd.underlying122, rfl⟩
theorem ty124 : TyI Tryd.prog 124 (.agg #[.int .i64 0, .bool false, .int .i64 0, .int .i64 0, .slice none 0 0]) 5 56 true := ⟨by kernel_rfl, _, Tryd.underlying124, rfl⟩
set_option maxRecDepth 100000 in
theorem res_eqD {w : World} {x y : ResultD} (hx0 : Byte x.value) (hy0 : Byte y.value) : (Op.eqFields 9999 #[.bool x.has, .string (strOfNums x.value), .int .i64 x.ver, .int .u64 x.tick] #[.bool y.has, .string (strOfNums y.value), .int .i64 y.ver, .int .u64 y.tick] (Tryd.prog.fieldsOf 84).toList).run Tryd.prog w = .ok (decide (x = y)) w := by
 have key : (x = y) = (x.has = y.has ∧ x.value = y.value ∧ x.ver = y.ver ∧ x.tick = y.tick) := propext (by cases x; cases y; simp)
 have key2 : decide (x = y) = decide (x.has = y.has ∧ x.value = y.value ∧ x.ver = y.ver ∧ x.tick = y.tick) := by simp only [key]
 rw [key2]
 simp only [Program.fieldsOf, Tryd.underlying84]
 simp [Op.eqFields, part, go_sem, tl_eq]
 have hs0 : (strOfNums x.value = strOfNums y.value) = (x.value = y.value) := propext ⟨sn_inj _ _ hx0 hy0, fun h => by rw [h]⟩
 simp only [hs0]
 by_cases h0 : x.has = y.has <;> by_cases h1 : x.value = y.value <;> by_cases h2 : x.ver = y.ver <;> by_cases h3 : x.tick = y.tick <;> simp [h0, h1, h2, h3]
theorem res_nes {dst : Option Tmp} {ty t' : TypeId} {pos : String} {af : Array Edge} {gg : Option (Nat × Bool)} {a : Act} {w : World} {u v : Operand} {x y : ResultD} (hx0 : Byte x.value) (hy0 : Byte y.value) (hu : a.eval u = .agg #[.bool x.has, .string (strOfNums x.value), .int .i64 x.ver, .int .u64 x.tick]) (hv : a.eval v = .agg #[.bool y.has, .string (strOfNums y.value), .int .i64 y.ver, .int .u64 y.tick]) : At Tryd.prog ⟨dst, .binOp .neq 84 u v t', ty, pos, af, gg⟩ a w (.bool (!decide (x = y))) :=
 x_neS (by kernel_rfl) (by kernel_rfl) (by kernel_rfl) hu hv (res_eqD hx0 hy0)
set_option maxRecDepth 100000 in
set_option maxHeartbeats 1000000 in
theorem cloneR_calls (w0 : World) {ok : Nat → Prop} {A : Option Addr} {xs : List ResultD} {c : Nat} (hr : Rd ResE w0 ok A xs c) (hs : xs.length ≤ 100000000) : Calls Tryd.prog 90 #[.slice A xs.length c] w0 fun e w' => ∃ v, e = .returned v ∧ Mods (fun _ => False) w0 w' ∧ RowOut ResE 84 w0 w' v xs := by
 refine calls_of_wp Tryd.func90 rfl ?_
 have hF := Fr.enter #[.slice A xs.length c] 8 (slotsOf [.slice A xs.length c] 0) (Nat.le_of_ble_eq_true rfl) (fun i v h => by have h2 := (get_slotsOf _ 0 i v h).2; simpa only [List.getElem?_toArray, Nat.sub_zero] using h2)
 have hH := Hp.nil (fun _ => False) w0
 rw [Tryd.ntmps90]
 revert hF; generalize (⟨(#[.slice A xs.length c] : Array Value) ++ Array.replicate (8 - (#[.slice A xs.length c] : Array Value).size) undef, []⟩ : Act) = a; intro hF
 have hH := hH.arg 901 hr.all (fun _ h => ⟨h, fun h => h⟩)
 have hle901 := hr.le; unfold maxLen at hle901
 refine wp_seq_k fun khK1 hK1 => ?_
 refine wp_region_lit ?_
 refine l_at hF rfl rfl rfl (x_assign rfl) ?_; clear hF; intro a hF
 refine wpList_nil ?_
 refine hK1 _ _ ?_
 refine wp_seq_k fun khK2 hK2 => ?_
 refine wp_seq_k fun khK3 hK3 => ?_
 refine wp_region_lit ?_
 refine l_at hF rfl rfl rfl (x_move (hF.tmp 0 rfl)) ?_; clear hF; intro a hF
 refine l_at hF rfl rfl rfl (x_slnil Tryd.underlying60 (hF.tmp 3 rfl) rfl) ?_; clear hF; intro a hF
 refine wpList_nil ?_
 refine hK3 _ _ ?_
 refine wp_cond_split (hF.tmp 4 rfl) (fun hc4 => ?_) (fun hc4 => ?_)
 ·have hk4_1 := hc4; try simp only [Bool.or_eq_true, Bool.and_eq_true, Bool.or_eq_false_iff, Bool.and_eq_false_iff, Bool.not_eq_true', Bool.not_eq_false', decide_eq_true_eq, decide_eq_false_iff_not, Bool.not_true, Bool.not_false] at hc4
  have hnil := rd_nil hr hc4
  subst hnil
  refine wp_seq_k fun khK4 hK4 => ?_
  refine wp_region_lit ?_
  refine l_at hF rfl rfl rfl (x_assign rfl) ?_; clear hF; intro a hF
  refine wpList_nil ?_
  refine hK4 _ _ ?_
  refine wp_ret ?_
  try simp only [Exit.then, Exit.inBlock]
  exact fin_ret hF (res1 hF rfl rfl) ⟨.slice none 0 0, rfl, hH.mods, RowOut.nil _ _ _ _⟩
 ·have hk4_2 := hc4; try simp only [Bool.or_eq_true, Bool.and_eq_true, Bool.or_eq_false_iff, Bool.and_eq_false_iff, Bool.not_eq_true', Bool.not_eq_false', decide_eq_true_eq, decide_eq_false_iff_not, Bool.not_true, Bool.not_false] at hc4
  refine wp_skip ?_
  refine hK2 _ _ ?_
  refine wp_seq_k fun khK5 hK5 => ?_
  refine wp_region_lit ?_
  refine wpList_plain rfl fun K hK => ?_
  refine w_lit0 ResE 5 hF hH rfl Tryd.underlying60 ty84 ?_
  clear hF hH; intro a w b5 hF hH
  refine hK _ _ ?_; clear hK K
  refine l_at hF rfl rfl rfl (x_move (hF.tmp 0 rfl)) ?_; clear hF; intro a hF
  refine wpList_plain rfl fun K hK => ?_
  refine w_append 5 901 (xs := ([])) (ys := xs) hF hH rfl Tryd.underlying60 ty84 rfl rfl rfl rfl ((hH.rd 901 rfl)) (by intro k_ hk_; exact .inr hk_) (hF.tmp 5 rfl) (hF.tmp 6 rfl) (by simp only [List.length_nil] at *; omega) (by simp only [List.length_nil, maxLen] at *; omega) (fun _ => False) (fun w' v' h => res_any h) (fun k_ hk_ => hk_.elim) ?_
  clear hF hH; intro a w v7 hF hH
  refine hK _ _ ?_; clear hK K
  refine l_at hF rfl rfl rfl (x_assign (hF.tmp 7 rfl)) ?_; clear hF; intro a hF
  refine wpList_nil ?_
  refine hK5 _ _ ?_
  refine wp_ret ?_
  try simp only [Exit.then, Exit.inBlock]
  rw [List.nil_append] at hH
  exact fin_ret hF (res1 hF rfl rfl) ⟨_, rfl, hH.mods, Hp.out hH 5 rfl⟩
set_option maxRecDepth 100000 in
set_option maxHeartbeats 1000000 in
theorem copied_calls (w0 : World) {y : AnswerD} {oky0 : Nat → Prop} {Ay0 : Option Addr} {cy0 : Nat} (hry0 : Rd ResE w0 oky0 Ay0 y.results cy0) (hs : y.results.length ≤ 40) : Calls Tryd.prog 61 #[.agg #[.int .i64 y.outcome, .int .i64 y.err, .slice Ay0 y.results.length cy0]] w0 fun e w' => ∃ v, e = .returned (.agg #[.int .i64 y.outcome, .int .i64 y.err, v]) ∧ Mods (fun _ => False) w0 w' ∧ RowOut ResE 84 w0 w' v y.results := by
 refine calls_of_wp Tryd.func61 rfl ?_
 have hF := Fr.enter #[.agg #[.int .i64 y.outcome, .int .i64 y.err, .slice Ay0 y.results.length cy0]] 8 (slotsOf [.agg #[.int .i64 y.outcome, .int .i64 y.err, .slice Ay0 y.results.length cy0]] 0) (Nat.le_of_ble_eq_true rfl) (fun i v h => by have h2 := (get_slotsOf _ 0 i v h).2; simpa only [List.getElem?_toArray, Nat.sub_zero] using h2)
 have hH := Hp.nil (fun _ => False) w0
 rw [Tryd.ntmps61]
 revert hF; generalize (⟨(#[.agg #[.int .i64 y.outcome, .int .i64 y.err, .slice Ay0 y.results.length cy0]] : Array Value) ++ Array.replicate (8 - (#[.agg #[.int .i64 y.outcome, .int .i64 y.err, .slice Ay0 y.results.length cy0]] : Array Value).size) undef, []⟩ : Act) = a; intro hF
 have hH := hH.arg 900 hry0.all (fun _ h => ⟨h, fun h => h⟩)
 have hley0 := hry0.le; unfold maxLen at hley0
 refine wp_seq_k fun khK1 hK1 => ?_
 refine wp_region_lit ?_
 refine wpList_plain rfl fun K hK => ?_
 refine w_box 1 hF hH rfl (hF.tmp 0 rfl) ?_
 clear hF hH; intro a w b1 hF hH
 refine hK _ _ ?_; clear hK K
 refine wpList_plain rfl fun K hK => ?_
 refine w_alloc 2 hF hH rfl ty62 ?_
 clear hF hH; intro a w b2 hF hH
 refine hK _ _ ?_; clear hK K
 refine wpList_nil ?_
 refine hK1 _ _ ?_
 refine wp_seq_k fun khK2 hK2 => ?_
 refine wp_region_lit ?_
 refine l_at hF rfl rfl rfl (x_faddr Tryd.underlying62 rfl ty60 (by decide) (hF.tmp 1 rfl) rfl) ?_; clear hF; intro a hF
 refine l_at hF rfl rfl rfl (x_load1 ty60 (hF.tmp 3 rfl) (blk_cell (hH.at 1 rfl) 2 rfl)) ?_; clear hF; intro a hF
 refine wpList_plain rfl fun K hK => ?_
 refine w_call hF (x_enter Tryd.func90 (by kernel_rfl) rfl (by simp only [List.map_toArray, List.map_cons, List.map_nil, hF.tmp 4 rfl] <;> rfl)) (cloneR_calls _ ((hH.rd 900 rfl)) (by omega)) rfl rfl ?_
 rintro _ w ⟨vr20, rfl, hm_, hr_⟩; refine ⟨_, rfl, ?_⟩; clear hF; intro a hF; have hH := Hp.rowOut hH 20 hm_ hr_; obtain ⟨Ar20, cr20, rfl⟩ := (hH.row 20 rfl).form
 refine hK _ _ ?_; clear hK K
 refine l_at hF rfl rfl rfl (x_faddr Tryd.underlying62 rfl ty60 (by decide) (hF.tmp 1 rfl) rfl) ?_; clear hF; intro a hF
 refine wpList_plain rfl fun K hK => ?_
 refine w_store 1 hH ty60 rfl (hF.tmp 6 rfl) (hF.tmp 5 rfl) rfl (one1 rfl rfl) (by first | decide | exact Nat.le_of_ble_eq_true rfl) ?_
 clear hH; intro w hH
 refine hK _ _ ?_; clear hK K
 refine wpList_nil ?_
 refine hK2 _ _ ?_
 refine wp_seq_k fun khK3 hK3 => ?_
 refine wp_region_lit ?_
 refine l_at hF rfl rfl rfl (x_loadn ty62 (hF.tmp 1 rfl) rfl (blk_whole (hH.at 1 rfl))) ?_; clear hF; intro a hF
 refine wpList_plain rfl fun K hK => ?_
 refine w_storeA 2 hH ty62 rfl (hF.tmp 2 rfl) (hF.tmp 7 rfl) rfl (by simp [spl, Value.cells, Value.oneCell']) rfl ?_
 clear hH; intro w hH
 refine hK _ _ ?_; clear hK K
 refine wpList_nil ?_
 refine hK3 _ _ ?_
 refine wp_ret ?_
 try simp only [Exit.then, Exit.inBlock]
 exact fin_ret hF (resc hF rfl rfl (hH.at 2 rfl) ty62 rfl) ⟨_, rfl, hH.mods, Hp.out hH 20 rfl⟩
set_option maxRecDepth 100000 in
set_option maxHeartbeats 1000000 in
theorem answer_calls (w0 : World) {y : AnswerD} {oky0 : Nat → Prop} {Ay0 : Option Addr} {cy0 : Nat} (hry0 : Rd ResE w0 oky0 Ay0 y.results cy0) : Calls Tryd.prog 29 #[.agg #[.int .i64 y.outcome, .int .i64 y.err, .slice Ay0 y.results.length cy0]] w0 fun e w' => e = .returned (.agg #[.int .i64 y.outcome, .int .i64 y.err, .slice Ay0 y.results.length cy0]) ∧ Mods (fun _ => False) w0 w' := by
 refine calls_of_wp Tryd.func29 rfl ?_
 have hF := Fr.enter #[.agg #[.int .i64 y.outcome, .int .i64 y.err, .slice Ay0 y.results.length cy0]] 10 (slotsOf [.agg #[.int .i64 y.outcome, .int .i64 y.err, .slice Ay0 y.results.length cy0]] 0) (Nat.le_of_ble_eq_true rfl) (fun i v h => by have h2 := (get_slotsOf _ 0 i v h).2; simpa only [List.getElem?_toArray, Nat.sub_zero] using h2)
 have hH := Hp.nil (fun _ => False) w0
 rw [Tryd.ntmps29]
 revert hF; generalize (⟨(#[.agg #[.int .i64 y.outcome, .int .i64 y.err, .slice Ay0 y.results.length cy0]] : Array Value) ++ Array.replicate (10 - (#[.agg #[.int .i64 y.outcome, .int .i64 y.err, .slice Ay0 y.results.length cy0]] : Array Value).size) undef, []⟩ : Act) = a; intro hF
 have hH := hH.arg 900 hry0.all (fun _ h => ⟨h, fun h => h⟩)
 have hley0 := hry0.le; unfold maxLen at hley0
 refine wp_seq_k fun khK1 hK1 => ?_
 refine wp_region_lit ?_
 refine wpList_plain rfl fun K hK => ?_
 refine w_box 1 hF hH rfl (hF.tmp 0 rfl) ?_
 clear hF hH; intro a w b1 hF hH
 refine hK _ _ ?_; clear hK K
 refine wpList_plain rfl fun K hK => ?_
 refine w_alloc 2 hF hH rfl ty68 ?_
 clear hF hH; intro a w b2 hF hH
 refine hK _ _ ?_; clear hK K
 refine wpList_nil ?_
 refine hK1 _ _ ?_
 refine wp_seq_k fun khK2 hK2 => ?_
 refine wp_region_lit ?_
 refine l_at hF rfl rfl rfl (x_faddr Tryd.underlying62 rfl ty3 (by decide) (hF.tmp 1 rfl) rfl) ?_; clear hF; intro a hF
 refine l_at hF rfl rfl rfl (x_load1 ty3 (hF.tmp 3 rfl) (blk_cell (hH.at 1 rfl) 0 rfl)) ?_; clear hF; intro a hF
 refine l_at hF rfl rfl rfl (x_faddr Tryd.underlying62 rfl ty29 (by decide) (hF.tmp 1 rfl) rfl) ?_; clear hF; intro a hF
 refine l_at hF rfl rfl rfl (x_load1 ty29 (hF.tmp 5 rfl) (blk_cell (hH.at 1 rfl) 1 rfl)) ?_; clear hF; intro a hF
 refine l_at hF rfl rfl rfl (x_faddr Tryd.underlying62 rfl ty60 (by decide) (hF.tmp 1 rfl) rfl) ?_; clear hF; intro a hF
 refine l_at hF rfl rfl rfl (x_load1 ty60 (hF.tmp 7 rfl) (blk_cell (hH.at 1 rfl) 2 rfl)) ?_; clear hF; intro a hF
 refine l_at hF rfl rfl rfl (x_buildS (cells := #[.int .i64 y.outcome, .int .i64 y.err, .slice Ay0 y.results.length cy0]) (places := #[(0, 1), (1, 1), (2, 1)]) Tryd.underlying68 ty68 (by kernel_rfl) (by simp only [List.map_toArray, List.map_cons, List.map_nil, hF.tmp 4 rfl, hF.tmp 6 rfl, hF.tmp 8 rfl] <;> rfl) rfl) ?_; clear hF; intro a hF
 refine wpList_plain rfl fun K hK => ?_
 refine w_storeA 2 hH ty68 rfl (hF.tmp 2 rfl) (hF.tmp 9 rfl) rfl (by simp [Value.cells, Value.oneCell']) rfl ?_
 clear hH; intro w hH
 refine hK _ _ ?_; clear hK K
 refine wpList_nil ?_
 refine hK2 _ _ ?_
 refine wp_ret ?_
 try simp only [Exit.then, Exit.inBlock]
 exact fin_ret hF (resc hF rfl rfl (hH.at 2 rfl) ty68 rfl) ⟨rfl, hH.mods⟩
set_option maxRecDepth 100000 in
set_option maxHeartbeats 1000000 in
theorem sameA_calls (w0 : World) {p q : AnswerD} {okp0 : Nat → Prop} {Ap0 : Option Addr} {cp0 : Nat} (hrp0 : Rd ResE w0 okp0 Ap0 p.results cp0) {okq0 : Nat → Prop} {Aq0 : Option Addr} {cq0 : Nat} (hrq0 : Rd ResE w0 okq0 Aq0 q.results cq0) (ha : AnsB p) (hb : AnsB q) : Calls Tryd.prog 28 #[.agg #[.int .i64 p.outcome, .int .i64 p.err, .slice Ap0 p.results.length cp0], .agg #[.int .i64 q.outcome, .int .i64 q.err, .slice Aq0 q.results.length cq0]] w0 fun e w' => e = .returned (.bool (decide (p = q))) ∧ Mods (fun _ => False) w0 w' := by
 refine calls_of_wp Tryd.func28 rfl ?_
 have hF := Fr.enter #[.agg #[.int .i64 p.outcome, .int .i64 p.err, .slice Ap0 p.results.length cp0], .agg #[.int .i64 q.outcome, .int .i64 q.err, .slice Aq0 q.results.length cq0]] 45 (slotsOf [.agg #[.int .i64 p.outcome, .int .i64 p.err, .slice Ap0 p.results.length cp0], .agg #[.int .i64 q.outcome, .int .i64 q.err, .slice Aq0 q.results.length cq0]] 0) (Nat.le_of_ble_eq_true rfl) (fun i v h => by have h2 := (get_slotsOf _ 0 i v h).2; simpa only [List.getElem?_toArray, Nat.sub_zero] using h2)
 have hH := Hp.nil (fun _ => False) w0
 rw [Tryd.ntmps28]
 revert hF; generalize (⟨(#[.agg #[.int .i64 p.outcome, .int .i64 p.err, .slice Ap0 p.results.length cp0], .agg #[.int .i64 q.outcome, .int .i64 q.err, .slice Aq0 q.results.length cq0]] : Array Value) ++ Array.replicate (45 - (#[.agg #[.int .i64 p.outcome, .int .i64 p.err, .slice Ap0 p.results.length cp0], .agg #[.int .i64 q.outcome, .int .i64 q.err, .slice Aq0 q.results.length cq0]] : Array Value).size) undef, []⟩ : Act) = a; intro hF
 have hH := hH.arg 900 hrp0.all (fun _ h => ⟨h, fun h => h⟩)
 have hlep0 := hrp0.le; unfold maxLen at hlep0
 have hH := hH.arg 950 hrq0.all (fun _ h => ⟨h, fun h => h⟩)
 have hleq0 := hrq0.le; unfold maxLen at hleq0
 refine wp_seq_k fun khK1 hK1 => ?_
 refine wp_region_lit ?_
 refine wpList_plain rfl fun K hK => ?_
 refine w_box 2 hF hH rfl (hF.tmp 0 rfl) ?_
 clear hF hH; intro a w b2 hF hH
 refine hK _ _ ?_; clear hK K
 refine wpList_plain rfl fun K hK => ?_
 refine w_box 3 hF hH rfl (hF.tmp 1 rfl) ?_
 clear hF hH; intro a w b3 hF hH
 refine hK _ _ ?_; clear hK K
 refine l_at hF rfl rfl rfl (x_assign rfl) ?_; clear hF; intro a hF
 refine wpList_nil ?_
 refine hK1 _ _ ?_
 refine wp_seq_k fun khK2 hK2 => ?_
 refine wp_seq_k fun khK3 hK3 => ?_
 refine wp_region_lit ?_
 refine l_at hF rfl rfl rfl (x_faddr Tryd.underlying68 rfl ty3 (by decide) (hF.tmp 2 rfl) rfl) ?_; clear hF; intro a hF
 refine l_at hF rfl rfl rfl (x_load1 ty3 (hF.tmp 6 rfl) (blk_cell (hH.at 2 rfl) 0 rfl)) ?_; clear hF; intro a hF
 refine l_at hF rfl rfl rfl (x_faddr Tryd.underlying68 rfl ty3 (by decide) (hF.tmp 3 rfl) rfl) ?_; clear hF; intro a hF
 refine l_at hF rfl rfl rfl (x_load1 ty3 (hF.tmp 8 rfl) (blk_cell (hH.at 3 rfl) 0 rfl)) ?_; clear hF; intro a hF
 refine l_at hF rfl rfl rfl (x_neq (hF.tmp 7 rfl) (hF.tmp 9 rfl)) ?_; clear hF; intro a hF
 refine l_at hF rfl rfl rfl (x_move (hF.tmp 10 rfl)) ?_; clear hF; intro a hF
 refine split_bool hF 11 rfl (fun hb11 => ?_) (fun hb11 => ?_)
 ·have hc11 := hb11; try simp only [Bool.or_eq_true, Bool.and_eq_true, Bool.or_eq_false_iff, Bool.and_eq_false_iff, Bool.not_eq_true', Bool.not_eq_false', decide_eq_true_eq, decide_eq_false_iff_not, Bool.not_true, Bool.not_false] at hc11
  refine l_offg hF ((wanted_of hF rfl rfl rfl rfl).trans (by rw [hb11]; rfl)) rfl rfl ?_; clear hF; intro a hF
  refine l_offg hF ((wanted_of hF rfl rfl rfl rfl).trans (by rw [hb11]; rfl)) rfl rfl ?_; clear hF; intro a hF
  refine l_offg hF ((wanted_of hF rfl rfl rfl rfl).trans (by rw [hb11]; rfl)) rfl rfl ?_; clear hF; intro a hF
  refine l_offg hF ((wanted_of hF rfl rfl rfl rfl).trans (by rw [hb11]; rfl)) rfl rfl ?_; clear hF; intro a hF
  refine l_offg hF ((wanted_of hF rfl rfl rfl rfl).trans (by rw [hb11]; rfl)) rfl rfl ?_; clear hF; intro a hF
  refine l_at hF rfl rfl rfl (x_pickT (hF.tmp 11 rfl) hb11 rfl) ?_; clear hF; intro a hF
  refine l_at hF rfl rfl rfl (x_move (hF.tmp 17 rfl)) ?_; clear hF; intro a hF
  refine l_offg hF ((wanted_of hF rfl rfl rfl rfl).trans rfl) rfl rfl ?_; clear hF; intro a hF
  refine l_offg hF ((wanted_of hF rfl rfl rfl rfl).trans rfl) rfl rfl ?_; clear hF; intro a hF
  refine l_offg hF ((wanted_of hF rfl rfl rfl rfl).trans rfl) rfl rfl ?_; clear hF; intro a hF
  refine l_offg hF ((wanted_of hF rfl rfl rfl rfl).trans rfl) rfl rfl ?_; clear hF; intro a hF
  refine l_offg hF ((wanted_of hF rfl rfl rfl rfl).trans rfl) rfl rfl ?_; clear hF; intro a hF
  refine l_offg hF ((wanted_of hF rfl rfl rfl rfl).trans rfl) rfl rfl ?_; clear hF; intro a hF
  refine l_offg hF ((wanted_of hF rfl rfl rfl rfl).trans rfl) rfl rfl ?_; clear hF; intro a hF
  refine l_at hF rfl rfl rfl (x_pickT (hF.tmp 18 rfl) rfl rfl) ?_; clear hF; intro a hF
  refine wpList_nil ?_
  refine hK3 _ _ ?_
  refine wp_cond_true (hF.tmp 26 rfl) ?_
  refine wp_seq_k fun khK4 hK4 => ?_
  refine wp_region_lit ?_
  refine l_at hF rfl rfl rfl (x_assign rfl) ?_; clear hF; intro a hF
  refine wpList_nil ?_
  refine hK4 _ _ ?_
  refine wp_ret ?_
  try simp only [Exit.then, Exit.inBlock]
  exact fin_ret hF (res1 hF rfl rfl) ⟨by rw [ans_not (x := p) (y := q) (by simp [hc11])] <;> rfl, hH.mods⟩
 ·have hc11 := hb11; try simp only [Bool.or_eq_true, Bool.and_eq_true, Bool.or_eq_false_iff, Bool.and_eq_false_iff, Bool.not_eq_true', Bool.not_eq_false', decide_eq_true_eq, decide_eq_false_iff_not, Bool.not_true, Bool.not_false] at hc11
  refine l_atg hF ((wanted_of hF rfl rfl rfl rfl).trans (by rw [hb11]; rfl)) rfl rfl (x_faddr Tryd.underlying68 rfl ty29 (by decide) (hF.tmp 2 rfl) rfl) ?_; clear hF; intro a hF
  refine l_atg hF ((wanted_of hF rfl rfl rfl rfl).trans (by rw [hb11]; rfl)) rfl rfl (x_load1 ty29 (hF.tmp 12 rfl) (blk_cell (hH.at 2 rfl) 1 rfl)) ?_; clear hF; intro a hF
  refine l_atg hF ((wanted_of hF rfl rfl rfl rfl).trans (by rw [hb11]; rfl)) rfl rfl (x_faddr Tryd.underlying68 rfl ty29 (by decide) (hF.tmp 3 rfl) rfl) ?_; clear hF; intro a hF
  refine l_atg hF ((wanted_of hF rfl rfl rfl rfl).trans (by rw [hb11]; rfl)) rfl rfl (x_load1 ty29 (hF.tmp 14 rfl) (blk_cell (hH.at 3 rfl) 1 rfl)) ?_; clear hF; intro a hF
  refine l_atg hF ((wanted_of hF rfl rfl rfl rfl).trans (by rw [hb11]; rfl)) rfl rfl (x_neq (hF.tmp 13 rfl) (hF.tmp 15 rfl)) ?_; clear hF; intro a hF
  refine l_at hF rfl rfl rfl (x_pickF (hF.tmp 11 rfl) hb11 (hF.tmp 16 rfl)) ?_; clear hF; intro a hF
  refine l_at hF rfl rfl rfl (x_move (hF.tmp 17 rfl)) ?_; clear hF; intro a hF
  refine split_bool hF 18 rfl (fun hb18 => ?_) (fun hb18 => ?_)
  ·have hc18 := hb18; try simp only [Bool.or_eq_true, Bool.and_eq_true, Bool.or_eq_false_iff, Bool.and_eq_false_iff, Bool.not_eq_true', Bool.not_eq_false', decide_eq_true_eq, decide_eq_false_iff_not, Bool.not_true, Bool.not_false] at hc18
   refine l_offg hF ((wanted_of hF rfl rfl rfl rfl).trans (by rw [hb18]; rfl)) rfl rfl ?_; clear hF; intro a hF
   refine l_offg hF ((wanted_of hF rfl rfl rfl rfl).trans (by rw [hb18]; rfl)) rfl rfl ?_; clear hF; intro a hF
   refine l_offg hF ((wanted_of hF rfl rfl rfl rfl).trans (by rw [hb18]; rfl)) rfl rfl ?_; clear hF; intro a hF
   refine l_offg hF ((wanted_of hF rfl rfl rfl rfl).trans (by rw [hb18]; rfl)) rfl rfl ?_; clear hF; intro a hF
   refine l_offg hF ((wanted_of hF rfl rfl rfl rfl).trans (by rw [hb18]; rfl)) rfl rfl ?_; clear hF; intro a hF
   refine l_offg hF ((wanted_of hF rfl rfl rfl rfl).trans (by rw [hb18]; rfl)) rfl rfl ?_; clear hF; intro a hF
   refine l_offg hF ((wanted_of hF rfl rfl rfl rfl).trans (by rw [hb18]; rfl)) rfl rfl ?_; clear hF; intro a hF
   refine l_at hF rfl rfl rfl (x_pickT (hF.tmp 18 rfl) hb18 rfl) ?_; clear hF; intro a hF
   refine wpList_nil ?_
   refine hK3 _ _ ?_
   refine wp_cond_true (hF.tmp 26 rfl) ?_
   refine wp_seq_k fun khK5 hK5 => ?_
   refine wp_region_lit ?_
   refine l_at hF rfl rfl rfl (x_assign rfl) ?_; clear hF; intro a hF
   refine wpList_nil ?_
   refine hK5 _ _ ?_
   refine wp_ret ?_
   try simp only [Exit.then, Exit.inBlock]
   exact fin_ret hF (res1 hF rfl rfl) ⟨by rw [ans_not (x := p) (y := q) (by simp [hc11, hc18])] <;> rfl, hH.mods⟩
  ·have hc18 := hb18; try simp only [Bool.or_eq_true, Bool.and_eq_true, Bool.or_eq_false_iff, Bool.and_eq_false_iff, Bool.not_eq_true', Bool.not_eq_false', decide_eq_true_eq, decide_eq_false_iff_not, Bool.not_true, Bool.not_false] at hc18
   refine l_atg hF ((wanted_of hF rfl rfl rfl rfl).trans (by rw [hb18]; rfl)) rfl rfl (x_faddr Tryd.underlying68 rfl ty60 (by decide) (hF.tmp 2 rfl) rfl) ?_; clear hF; intro a hF
   refine l_atg hF ((wanted_of hF rfl rfl rfl rfl).trans (by rw [hb18]; rfl)) rfl rfl (x_load1 ty60 (hF.tmp 19 rfl) (blk_cell (hH.at 2 rfl) 2 rfl)) ?_; clear hF; intro a hF
   refine l_atg hF ((wanted_of hF rfl rfl rfl rfl).trans (by rw [hb18]; rfl)) rfl rfl (x_len_slice Tryd.underlying60 (hF.tmp 20 rfl)) ?_; clear hF; intro a hF
   refine l_atg hF ((wanted_of hF rfl rfl rfl rfl).trans (by rw [hb18]; rfl)) rfl rfl (x_faddr Tryd.underlying68 rfl ty60 (by decide) (hF.tmp 3 rfl) rfl) ?_; clear hF; intro a hF
   refine l_atg hF ((wanted_of hF rfl rfl rfl rfl).trans (by rw [hb18]; rfl)) rfl rfl (x_load1 ty60 (hF.tmp 22 rfl) (blk_cell (hH.at 3 rfl) 2 rfl)) ?_; clear hF; intro a hF
   refine l_atg hF ((wanted_of hF rfl rfl rfl rfl).trans (by rw [hb18]; rfl)) rfl rfl (x_len_slice Tryd.underlying60 (hF.tmp 23 rfl)) ?_; clear hF; intro a hF
   refine l_atg hF ((wanted_of hF rfl rfl rfl rfl).trans (by rw [hb18]; rfl)) rfl rfl (x_neq (hF.tmp 21 rfl) (hF.tmp 24 rfl)) ?_; clear hF; intro a hF
   refine l_at hF rfl rfl rfl (x_pickF (hF.tmp 18 rfl) hb18 (hF.tmp 25 rfl)) ?_; clear hF; intro a hF
   refine wpList_nil ?_
   refine hK3 _ _ ?_
   refine wp_cond_split (hF.tmp 26 rfl) (fun hc26 => ?_) (fun hc26 => ?_)
   ·have hk26_1 := hc26; try simp only [Bool.or_eq_true, Bool.and_eq_true, Bool.or_eq_false_iff, Bool.and_eq_false_iff, Bool.not_eq_true', Bool.not_eq_false', decide_eq_true_eq, decide_eq_false_iff_not, Bool.not_true, Bool.not_false] at hc26
    refine wp_seq_k fun khK6 hK6 => ?_
    refine wp_region_lit ?_
    refine l_at hF rfl rfl rfl (x_assign rfl) ?_; clear hF; intro a hF
    refine wpList_nil ?_
    refine hK6 _ _ ?_
    refine wp_ret ?_
    try simp only [Exit.then, Exit.inBlock]
    exact fin_ret hF (res1 hF rfl rfl) ⟨by rw [ans_not (x := p) (y := q) (by simp [hc11, hc18, hc26])] <;> rfl, hH.mods⟩
   ·have hk26_2 := hc26; try simp only [Bool.or_eq_true, Bool.and_eq_true, Bool.or_eq_false_iff, Bool.and_eq_false_iff, Bool.not_eq_true', Bool.not_eq_false', decide_eq_true_eq, decide_eq_false_iff_not, Bool.not_true, Bool.not_false] at hc26
    refine wp_skip ?_
    refine hK2 _ _ ?_
    refine wp_seq_k fun khK7 hK7 => ?_
    refine wp_seq_k fun khK8 hK8 => ?_
    refine wp_region_lit ?_
    refine l_at hF rfl rfl rfl (x_assign rfl) ?_; clear hF; intro a hF
    refine wpList_nil ?_
    refine hK8 _ _ ?_
    refine wp_block ?_
    refine wp_loop_ghost (fun n_ a w => ∃ k : Nat, n_ = p.results.length - k ∧ (k ≤ p.results.length) ∧ (p.results.take k = q.results.take k) ∧ Fr 45 a [(2, .pointer (some ⟨b2, 0, none⟩)), (3, .pointer (some ⟨b3, 0, none⟩)), (5, .int .i64 (k : Int))] ∧ Hp (fun _ => False) w0 w [(900, .rd_ ResE Ap0 p.results cp0 (fun k => k < w0.heap.size)), (950, .rd_ ResE Aq0 q.results cq0 (fun k => k < w0.heap.size)), (2, .blk b2 (.cells #[.int .i64 p.outcome, .int .i64 p.err, .slice Ap0 p.results.length cp0] 68 (0, 0))), (3, .blk b3 (.cells #[.int .i64 q.outcome, .int .i64 q.err, .slice Aq0 q.results.length cq0] 68 (0, 0)))]) (p.results.length) ?_ ?_
    ·exact ⟨0, rfl, by omega, rfl, (((hF.bare.add hF 5 rfl).add hF 3 rfl).add hF 2 rfl), hH.sub _ (sub_cons (sub_cons (sub_cons (sub_cons (sub_nil _) 3 rfl) 2 rfl) 950 rfl) 900 rfl)⟩
    ·rintro _ a w ⟨k, rfl, hq0_0, hq0_1, hF, hH⟩
     refine wp_seq_k fun khK9 hK9 => ?_
     refine wp_seq_k fun khK10 hK10 => ?_
     refine wp_region_lit ?_
     refine l_at hF rfl rfl rfl (x_move (hF.tmp 5 rfl)) ?_; clear hF; intro a hF
     refine l_at hF rfl rfl rfl (x_faddr Tryd.underlying68 rfl ty60 (by decide) (hF.tmp 2 rfl) rfl) ?_; clear hF; intro a hF
     refine l_at hF rfl rfl rfl (x_load1 ty60 (hF.tmp 28 rfl) (blk_cell (hH.at 2 rfl) 2 rfl)) ?_; clear hF; intro a hF
     refine l_at hF rfl rfl rfl (x_len_slice Tryd.underlying60 (hF.tmp 29 rfl)) ?_; clear hF; intro a hF
     refine l_at hF rfl rfl rfl (x_lss (hF.tmp 27 rfl) (hF.tmp 30 rfl)) ?_; clear hF; intro a hF
     refine wpList_nil ?_
     refine hK10 _ _ ?_
     refine wp_cond_split (hF.tmp 31 rfl) (fun hc31 => ?_) (fun hc31 => ?_)
     ·have hk31_3 := hc31; try simp only [Bool.or_eq_true, Bool.and_eq_true, Bool.or_eq_false_iff, Bool.and_eq_false_iff, Bool.not_eq_true', Bool.not_eq_false', decide_eq_true_eq, decide_eq_false_iff_not, Bool.not_true, Bool.not_false] at hc31
      obtain ⟨hf1_0, hf1_1, hf1_2, hf1_3, hfw1⟩ := rd_res ((hH.rd 900 rfl)) (gres_some (xs := p.results) (i := (k : Int)) (by omega) (by omega))
      have hH := hH.subcels 900 rfl 1499 hfw1 (Rd.inok ((hH.rd 900 rfl)) (by omega) _)
      have hH := hH.subcel 900 rfl 1500 hf1_0 (Rd.inok ((hH.rd 900 rfl)) (by omega) _)
      have hH := hH.subcel 900 rfl 1501 hf1_1 (Rd.inok ((hH.rd 900 rfl)) (by omega) _)
      have hH := hH.subcel 900 rfl 1502 hf1_2 (Rd.inok ((hH.rd 900 rfl)) (by omega) _)
      have hH := hH.subcel 900 rfl 1503 hf1_3 (Rd.inok ((hH.rd 900 rfl)) (by omega) _)
      obtain ⟨hf2_0, hf2_1, hf2_2, hf2_3, hfw2⟩ := rd_res ((hH.rd 950 rfl)) (gres_some (xs := q.results) (i := (k : Int)) (by omega) (by omega))
      have hH := hH.subcels 950 rfl 2499 hfw2 (Rd.inok ((hH.rd 950 rfl)) (by omega) _)
      have hH := hH.subcel 950 rfl 2500 hf2_0 (Rd.inok ((hH.rd 950 rfl)) (by omega) _)
      have hH := hH.subcel 950 rfl 2501 hf2_1 (Rd.inok ((hH.rd 950 rfl)) (by omega) _)
      have hH := hH.subcel 950 rfl 2502 hf2_2 (Rd.inok ((hH.rd 950 rfl)) (by omega) _)
      have hH := hH.subcel 950 rfl 2503 hf2_3 (Rd.inok ((hH.rd 950 rfl)) (by omega) _)
      refine wp_skip ?_
      refine hK9 _ _ ?_
      refine wp_seq_k fun khK11 hK11 => ?_
      refine wp_block ?_
      refine wp_seq_k fun khK12 hK12 => ?_
      refine r_start [(900, .rd_ ResE Ap0 p.results cp0 (fun k => k < w0.heap.size)), (950, .rd_ ResE Aq0 q.results cq0 (fun k => k < w0.heap.size)), (1499, .cels (adr Ap0 (Int.toNat (k : Int) * 4)) #[.bool (gres p.results (k : Int)).has, .string (strOfNums (gres p.results (k : Int)).value), .int .i64 (gres p.results (k : Int)).ver, .int .u64 (gres p.results (k : Int)).tick]), (1500, .cel (adr Ap0 (Int.toNat (k : Int) * 4)) (.bool (gres p.results (k : Int)).has)), (1501, .cel (adr Ap0 (Int.toNat (k : Int) * 4 + 1)) (.string (strOfNums (gres p.results (k : Int)).value))), (1502, .cel (adr Ap0 (Int.toNat (k : Int) * 4 + 2)) (.int .i64 (gres p.results (k : Int)).ver)), (1503, .cel (adr Ap0 (Int.toNat (k : Int) * 4 + 3)) (.int .u64 (gres p.results (k : Int)).tick)), (2499, .cels (adr Aq0 (Int.toNat (k : Int) * 4)) #[.bool (gres q.results (k : Int)).has, .string (strOfNums (gres q.results (k : Int)).value), .int .i64 (gres q.results (k : Int)).ver, .int .u64 (gres q.results (k : Int)).tick]), (2500, .cel (adr Aq0 (Int.toNat (k : Int) * 4)) (.bool (gres q.results (k : Int)).has)), (2501, .cel (adr Aq0 (Int.toNat (k : Int) * 4 + 1)) (.string (strOfNums (gres q.results (k : Int)).value))), (2502, .cel (adr Aq0 (Int.toNat (k : Int) * 4 + 2)) (.int .i64 (gres q.results (k : Int)).ver)), (2503, .cel (adr Aq0 (Int.toNat (k : Int) * 4 + 3)) (.int .u64 (gres q.results (k : Int)).tick)), (2, .blk b2 (.cells #[.int .i64 p.outcome, .int .i64 p.err, .slice Ap0 p.results.length cp0] 68 (0, 0))), (3, .blk b3 (.cells #[.int .i64 q.outcome, .int .i64 q.err, .slice Aq0 q.results.length cq0] 68 (0, 0)))] (by kernel_rfl) hH fun hH => ?_
      have hS : SL [(900, .rd_ ResE Ap0 p.results cp0 (fun k => k < w0.heap.size)), (950, .rd_ ResE Aq0 q.results cq0 (fun k => k < w0.heap.size)), (1499, .cels (adr Ap0 (Int.toNat (k : Int) * 4)) #[.bool (gres p.results (k : Int)).has, .string (strOfNums (gres p.results (k : Int)).value), .int .i64 (gres p.results (k : Int)).ver, .int .u64 (gres p.results (k : Int)).tick]), (1500, .cel (adr Ap0 (Int.toNat (k : Int) * 4)) (.bool (gres p.results (k : Int)).has)), (1501, .cel (adr Ap0 (Int.toNat (k : Int) * 4 + 1)) (.string (strOfNums (gres p.results (k : Int)).value))), (1502, .cel (adr Ap0 (Int.toNat (k : Int) * 4 + 2)) (.int .i64 (gres p.results (k : Int)).ver)), (1503, .cel (adr Ap0 (Int.toNat (k : Int) * 4 + 3)) (.int .u64 (gres p.results (k : Int)).tick)), (2499, .cels (adr Aq0 (Int.toNat (k : Int) * 4)) #[.bool (gres q.results (k : Int)).has, .string (strOfNums (gres q.results (k : Int)).value), .int .i64 (gres q.results (k : Int)).ver, .int .u64 (gres q.results (k : Int)).tick]), (2500, .cel (adr Aq0 (Int.toNat (k : Int) * 4)) (.bool (gres q.results (k : Int)).has)), (2501, .cel (adr Aq0 (Int.toNat (k : Int) * 4 + 1)) (.string (strOfNums (gres q.results (k : Int)).value))), (2502, .cel (adr Aq0 (Int.toNat (k : Int) * 4 + 2)) (.int .i64 (gres q.results (k : Int)).ver)), (2503, .cel (adr Aq0 (Int.toNat (k : Int) * 4 + 3)) (.int .u64 (gres q.results (k : Int)).tick)), (2, .blk b2 (.cells #[.int .i64 p.outcome, .int .i64 p.err, .slice Ap0 p.results.length cp0] 68 (0, 0))), (3, .blk b3 (.cells #[.int .i64 q.outcome, .int .i64 q.err, .slice Aq0 q.results.length cq0] 68 (0, 0)))] _ := SL.of hH (sub_cons (sub_cons (sub_cons (sub_cons (sub_cons (sub_cons (sub_cons (sub_cons (sub_cons (sub_cons (sub_cons (sub_cons (sub_cons (sub_cons (sub_nil _) 3 rfl) 2 rfl) 2503 rfl) 2502 rfl) 2501 rfl) 2500 rfl) 2499 rfl) 1503 rfl) 1502 rfl) 1501 rfl) 1500 rfl) 1499 rfl) 950 rfl) 900 rfl)
      refine r_take 0 hF rfl rfl rfl (by kernel_rfl) (by kernel_rfl) (by kernel_rfl) (fun _ _ _ h => h) rfl hS (fun w hS => x_faddr Tryd.underlying68 rfl ty60 (by decide) (hF.tmp 2 rfl) rfl) rfl ?_; clear hF; intro a hF
      refine r_take 1 hF rfl rfl rfl (by kernel_rfl) (by kernel_rfl) (by kernel_rfl) (fun _ _ _ h => h) rfl hS (fun w hS => x_load1 ty60 (hF.tmp 34 rfl) (blk_cell (SL.at_ hS 2 rfl) 2 rfl)) rfl ?_; clear hF; intro a hF
      refine r_take 2 hF rfl rfl rfl (by kernel_rfl) (by kernel_rfl) (by kernel_rfl) (fun _ _ _ h => h) rfl hS (fun w hS => x_move (hF.tmp 5 rfl)) rfl ?_; clear hF; intro a hF
      refine r_take 3 hF rfl rfl rfl (by kernel_rfl) (by kernel_rfl) (by kernel_rfl) (fun _ _ _ h => h) rfl hS (fun w hS => x_iaddr_A Tryd.underlying60 ty84 ((hH.rd 900 rfl)) (hF.tmp 35 rfl) (hF.tmp 36 rfl) (by omega) (by omega) _) rfl ?_; clear hF; intro a hF
      refine r_take 4 hF rfl rfl rfl (by kernel_rfl) (by kernel_rfl) (by kernel_rfl) (fun _ _ _ h => h) rfl hS (fun w hS => x_loadn ty84 (hF.tmp 37 rfl) rfl (hS 1499 _ rfl)) rfl ?_; clear hF; intro a hF
      refine r_take 5 hF rfl rfl rfl (by kernel_rfl) (by kernel_rfl) (by kernel_rfl) (fun _ _ _ h => h) rfl hS (fun w hS => x_faddr Tryd.underlying68 rfl ty60 (by decide) (hF.tmp 3 rfl) rfl) rfl ?_; clear hF; intro a hF
      refine r_take 6 hF rfl rfl rfl (by kernel_rfl) (by kernel_rfl) (by kernel_rfl) (fun _ _ _ h => h) rfl hS (fun w hS => x_load1 ty60 (hF.tmp 39 rfl) (blk_cell (SL.at_ hS 3 rfl) 2 rfl)) rfl ?_; clear hF; intro a hF
      refine r_take 7 hF rfl rfl rfl (by kernel_rfl) (by kernel_rfl) (by kernel_rfl) (fun _ _ _ h => h) rfl hS (fun w hS => x_move (hF.tmp 5 rfl)) rfl ?_; clear hF; intro a hF
      refine r_take 8 hF rfl rfl rfl (by kernel_rfl) (by kernel_rfl) (by kernel_rfl) (fun _ _ _ h => h) rfl hS (fun w hS => x_iaddr_A Tryd.underlying60 ty84 ((hH.rd 950 rfl)) (hF.tmp 40 rfl) (hF.tmp 41 rfl) (by omega) (by omega) _) rfl ?_; clear hF; intro a hF
      refine r_take 9 hF rfl rfl rfl (by kernel_rfl) (by kernel_rfl) (by kernel_rfl) (fun _ _ _ h => h) rfl hS (fun w hS => x_loadn ty84 (hF.tmp 42 rfl) rfl (hS 2499 _ rfl)) rfl ?_; clear hF; intro a hF
      refine r_take 10 hF rfl rfl rfl (by kernel_rfl) (by kernel_rfl) (by kernel_rfl) (fun _ _ _ h => h) rfl hS (fun w hS => res_nes (x := (gres p.results (k : Int))) (y := (gres q.results (k : Int))) (ha.results _ (gres_mem (by omega))).value (hb.results _ (gres_mem (by omega))).value (hF.tmp 38 rfl) (hF.tmp 43 rfl)) rfl ?_; clear hF; intro a hF
      refine r_end (by kernel_rfl) ?_; clear hS
      refine hK12 _ _ ?_
      refine wp_cond_split (hF.tmp 44 rfl) (fun hc44 => ?_) (fun hc44 => ?_)
      ·have hk44_4 := hc44; try simp only [Bool.or_eq_true, Bool.and_eq_true, Bool.or_eq_false_iff, Bool.and_eq_false_iff, Bool.not_eq_true', Bool.not_eq_false', decide_eq_true_eq, decide_eq_false_iff_not, Bool.not_true, Bool.not_false] at hc44
       have hz := ans_res (same_at (xs := p.results) (ys := q.results) (fun l => gres l (k : Int)) hc44)
       refine wp_seq_k fun khK13 hK13 => ?_
       refine wp_region_lit ?_
       refine l_at hF rfl rfl rfl (x_assign rfl) ?_; clear hF; intro a hF
       refine wpList_nil ?_
       refine hK13 _ _ ?_
       refine wp_ret ?_
       try simp only [Exit.then, Exit.inBlock]
       exact fin_ret hF (res1 hF rfl rfl) ⟨by rw [hz] <;> rfl, hH.mods⟩
      ·have hk44_5 := hc44; try simp only [Bool.or_eq_true, Bool.and_eq_true, Bool.or_eq_false_iff, Bool.and_eq_false_iff, Bool.not_eq_true', Bool.not_eq_false', decide_eq_true_eq, decide_eq_false_iff_not, Bool.not_true, Bool.not_false] at hc44
       refine wp_skip ?_
       refine hK11 _ _ ?_
       refine wp_region_lit ?_
       refine l_at hF rfl rfl rfl (x_move (hF.tmp 5 rfl)) ?_; clear hF; intro a hF
       refine l_at hF rfl rfl rfl (x_add (hF.tmp 32 rfl) rfl (w64 (by omega) (by omega))) ?_; clear hF; intro a hF
       refine l_at hF rfl rfl rfl (x_assign (hF.tmp 33 rfl)) ?_; clear hF; intro a hF
       refine wpList_nil ?_
       exact ⟨_, by omega, ⟨k + 1, rfl, by omega, same_step (gres_some (xs := p.results) (i := (k : Int)) (by omega) (by omega)) (gres_some (xs := q.results) (i := (k : Int)) (by omega) (by omega)) hq0_1 hc44, (((hF.bare.add hF 5 rfl).add hF 3 rfl).add hF 2 rfl), hH.sub _ (sub_cons (sub_cons (sub_cons (sub_cons (sub_nil _) 3 rfl) 2 rfl) 950 rfl) 900 rfl)⟩⟩
     ·have hk31_6 := hc31; try simp only [Bool.or_eq_true, Bool.and_eq_true, Bool.or_eq_false_iff, Bool.and_eq_false_iff, Bool.not_eq_true', Bool.not_eq_false', decide_eq_true_eq, decide_eq_false_iff_not, Bool.not_true, Bool.not_false] at hc31
      have hnn := of_decide_eq_true (same_yes (xs := p.results) (ys := q.results) (k := k) (by omega) (by omega) hq0_1)
      refine wp_exit ?_
      refine hK7 _ _ ?_
      refine wp_seq_k fun khK14 hK14 => ?_
      refine wp_region_lit ?_
      refine l_at hF rfl rfl rfl (x_assign rfl) ?_; clear hF; intro a hF
      refine wpList_nil ?_
      refine hK14 _ _ ?_
      refine wp_ret ?_
      try simp only [Exit.then, Exit.inBlock]
      have hv : true = decide (p = q) := by rw [Bool.eq_iff_iff]; simp only [decide_eq_true_iff, ans_same]; first | (simp [hc11, hc18, hc26, hc31, hnn]; done) | (simp [hc11, hc18, hc26, hc31, hnn]; omega)
      exact fin_ret hF (res1 (v := .bool true) hF rfl rfl) ⟨by rw [hv], hH.mods⟩
set_option maxRecDepth 100000 in
set_option maxHeartbeats 1000000 in
theorem tnew_calls (w0 : World) : Calls Tryd.prog 25 #[] w0 fun e w' => ∃ bt X, e = .returned (.pointer (some ⟨bt, 0, none⟩)) ∧ TabA 122 bt [] X ∧ X.ok w' ∧ Mods (fun _ => False) w0 w' ∧ (∀ k, X.own k → w0.heap.size ≤ k) ∧ ∀ k, X.rd k → False := by
 refine calls_of_wp Tryd.func25 rfl ?_
 have hF := Fr.enter #[] 4 (slotsOf [] 0) (Nat.le_of_ble_eq_true rfl) (fun i v h => by have h2 := (get_slotsOf _ 0 i v h).2; simpa only [List.getElem?_toArray, Nat.sub_zero] using h2)
 have hH := Hp.nil (fun _ => False) w0
 rw [Tryd.ntmps25]
 revert hF; generalize (⟨(#[] : Array Value) ++ Array.replicate (4 - (#[] : Array Value).size) undef, []⟩ : Act) = a; intro hF
 refine wp_seq_k fun khK1 hK1 => ?_
 refine wp_region_lit ?_
 refine l_at hF rfl rfl rfl (x_assign rfl) ?_; clear hF; intro a hF
 refine wpList_nil ?_
 refine hK1 _ _ ?_
 refine wp_seq_k fun khK2 hK2 => ?_
 refine wp_region_lit ?_
 refine wpList_plain rfl fun K hK => ?_
 refine w_makeMap KS LV 2 hF hH rfl ?_
 clear hF hH; intro a w b1 hF hH
 refine hK _ _ ?_; clear hK K
 refine l_at hF rfl rfl rfl (x_buildS (cells := #[.map (some b1)]) (places := #[(0, 1)]) Tryd.underlying122 ty122 (by kernel_rfl) (by simp only [List.map_toArray, List.map_cons, List.map_nil, hF.tmp 1 rfl] <;> rfl) rfl) ?_; clear hF; intro a hF
 refine wpList_plain rfl fun K hK => ?_
 refine w_box 1 hF hH rfl (hF.tmp 2 rfl) ?_
 clear hF hH; intro a w b3 hF hH
 refine hK _ _ ?_; clear hK K
 refine l_at hF rfl rfl rfl (x_assign (hF.tmp 3 rfl)) ?_; clear hF; intro a hF
 refine wpList_nil ?_
 refine hK2 _ _ ?_
 refine wp_ret ?_
 try simp only [Exit.then, Exit.inBlock]
 have hl := hH.sub [(1, .blk b3 (.cells #[.map (some b1)] 122 (0, 0))), (2, .map KS LV b1 [] (fun _ => False))] (sub_cons (sub_cons (sub_nil _) 2 rfl) 1 rfl)
 exact fin_ret hF (res1 hF rfl rfl) ⟨b3, _, rfl, ⟨_, _, rfl⟩, hl.okAll, hl.mods, own_cons (fun k hk => (hl.mine 1 _ rfl k hk).resolve_left (fun h => h)) (own_cons (fun k hk => (hl.mine 2 _ rfl k hk).resolve_left (fun h => h)) own_nil), rdin_cons (fun k h => h.elim) (rdin_cons (fun k h => h.1.elim) rdin_nil)⟩
set_option maxRecDepth 100000 in
set_option maxHeartbeats 1000000 in
theorem ask_calls (w0 : World) {pp : Bool} (hL : LibAt pp w0) {X : Asn} {bt : Nat} {m : TabM} (hX : TabA 122 bt m X) (hok : X.ok w0) (hs : TabB m) (hLX : ∀ k, (Asn.lib pp).rd k → ¬ X.own k) {r : SReqD} {okr0 : Nat → Prop} {Ar0 : Option Addr} {cr0 : Nat} (hrr0 : Rd OpdE w0 okr0 Ar0 r.ops cr0) (hb : SReqB r) (hinr0 : ∀ k, okr0 k → k < w0.heap.size) (hapr0 : ∀ k, okr0 k → ¬ X.own k) : Calls Tryd.prog 27 #[.pointer (some ⟨bt, 0, none⟩), .agg #[.string (strOfNums r.client), .int .i64 r.num, .slice Ar0 r.ops.length cr0]] w0 fun e w' => ∃ X' v, e = .returned (.tuple #[.agg #[.int .i64 (askA m r).outcome, .int .i64 (askA m r).err, v], .bool (askF m r), .int .i64 (askE m r)]) ∧ TabA 122 bt (askM m r) X' ∧ Grew (fun _ => False) (fun _ => False) X w0 w' X' ∧ RowOut ResE 84 w0 w' v (askA m r).results ∧ ∀ k, v.ownBlock = some k → ¬ (X'.own k ∨ X'.rd k) := by
 obtain ⟨bm, okm, rfl⟩ := hX
 refine calls_of_wp Tryd.func27 rfl ?_
 have hF := Fr.enter #[.pointer (some ⟨bt, 0, none⟩), .agg #[.string (strOfNums r.client), .int .i64 r.num, .slice Ar0 r.ops.length cr0]] 70 (slotsOf [.pointer (some ⟨bt, 0, none⟩), .agg #[.string (strOfNums r.client), .int .i64 r.num, .slice Ar0 r.ops.length cr0]] 0) (Nat.le_of_ble_eq_true rfl) (fun i v h => by have h2 := (get_slotsOf _ 0 i v h).2; simpa only [List.getElem?_toArray, Nat.sub_zero] using h2)
 rw [Tryd.ntmps27]
 revert hF; generalize (⟨(#[.pointer (some ⟨bt, 0, none⟩), .agg #[.string (strOfNums r.client), .int .i64 r.num, .slice Ar0 r.ops.length cr0]] : Array Value) ++ Array.replicate (70 - (#[.pointer (some ⟨bt, 0, none⟩), .agg #[.string (strOfNums r.client), .int .i64 r.num, .slice Ar0 r.ops.length cr0]] : Array Value).size) undef, []⟩ : Act) = a; intro hF
 have hH := Hp.ofAll hok.holds
 have hH := hH.lib 990 hL (fun i A_ hA k hk hk2 => hLX k hk2 ⟨i, A_, hA, hk⟩)
 have hH := hH.readable 900 hrr0 hinr0 (fun j Y hY k hk hk2 => by rcases Sx.get_one hY with ⟨_, rfl⟩ | ⟨_, hY⟩; exact hk; exact hapr0 k hk2 ⟨j, Y, hY, hk⟩)
 have hler0 := hrr0.le; unfold maxLen at hler0
 refine wp_seq_k fun khK1 hK1 => ?_
 refine wp_region_lit ?_
 refine wpList_plain rfl fun K hK => ?_
 refine w_box 3 hF hH rfl (hF.tmp 1 rfl) ?_
 clear hF hH; intro a w b3 hF hH
 refine hK _ _ ?_; clear hK K
 refine wpList_plain rfl fun K hK => ?_
 refine w_alloc 4 hF hH rfl ty62 ?_
 clear hF hH; intro a w b4 hF hH
 refine hK _ _ ?_; clear hK K
 refine l_at hF rfl rfl rfl (x_assign rfl) ?_; clear hF; intro a hF
 refine l_at hF rfl rfl rfl (x_assign rfl) ?_; clear hF; intro a hF
 refine wpList_nil ?_
 refine hK1 _ _ ?_
 refine wp_seq_k fun khK2 hK2 => ?_
 refine wp_block ?_
 refine wp_seq_k fun khK3 hK3 => ?_
 refine wp_region_lit ?_
 refine l_at hF rfl rfl rfl (x_move (hF.tmp 0 rfl)) ?_; clear hF; intro a hF
 refine l_at hF rfl rfl rfl (x_ptrnil Tryd.underlying58 (hF.tmp 10 rfl) rfl) ?_; clear hF; intro a hF
 refine l_at hF rfl rfl rfl (x_assign (hF.tmp 11 rfl)) ?_; clear hF; intro a hF
 refine wpList_nil ?_
 refine hK3 _ _ ?_
 refine wp_cond_false (hF.tmp 9 rfl) ?_
 refine wp_seq_k fun khK4 hK4 => ?_
 refine wp_region_lit ?_
 refine l_at hF rfl rfl rfl (x_loadn ty45 (hF.tmp 3 rfl) rfl (blk_whole (hH.at 3 rfl))) ?_; clear hF; intro a hF
 refine wpList_plain rfl fun K hK => ?_
 refine w_call hF (x_enter Tryd.func21 (by kernel_rfl) rfl (by simp only [List.map_toArray, List.map_cons, List.map_nil, hF.tmp 14 rfl] <;> rfl)) (rightQ_calls (r := r) _ (hH.holds 990 _ rfl) ((hH.rd 900 rfl)) hb) rfl rfl ?_
 rintro _ w ⟨rfl, hm_⟩; refine ⟨_, rfl, ?_⟩; clear hF; intro a hF; have hH := hH.same hm_
 refine hK _ _ ?_; clear hK K
 refine l_at hF rfl rfl rfl (x_not (hF.tmp 15 rfl)) ?_; clear hF; intro a hF
 refine l_at hF rfl rfl rfl (x_assign (hF.tmp 16 rfl)) ?_; clear hF; intro a hF
 refine wpList_nil ?_
 refine hK4 _ _ ?_
 refine wp_cond_split (hF.tmp 13 rfl) (fun hc13 => ?_) (fun hc13 => ?_)
 ·have hk13_1 := hc13; try simp only [Bool.or_eq_true, Bool.and_eq_true, Bool.or_eq_false_iff, Bool.and_eq_false_iff, Bool.not_eq_true', Bool.not_eq_false', decide_eq_true_eq, decide_eq_false_iff_not, Bool.not_true, Bool.not_false] at hc13
  refine wp_seq_k fun khK5 hK5 => ?_
  refine wp_region_lit ?_
  refine l_at hF rfl rfl rfl (x_buildS (cells := #[.int .i64 0, .int .i64 0, .slice none 0 0]) (places := #[(0, 1), (1, 1), (2, 1)]) Tryd.underlying62 ty62 (by kernel_rfl) Array.map_empty rfl) ?_; clear hF; intro a hF
  refine wpList_plain rfl fun K hK => ?_
  refine w_storeA 4 hH ty62 rfl (hF.tmp 4 rfl) (hF.tmp 17 rfl) rfl (by simp [Value.cells, Value.oneCell']) rfl ?_
  clear hH; intro w hH
  refine hK _ _ ?_; clear hK K
  refine l_at hF rfl rfl rfl (x_assign rfl) ?_; clear hF; intro a hF
  refine l_at hF rfl rfl rfl (x_assign rfl) ?_; clear hF; intro a hF
  refine wpList_nil ?_
  refine hK5 _ _ ?_
  refine wp_ret ?_
  try simp only [Exit.then, Exit.inBlock]
  obtain ⟨hA_, hF_, hE_, hM_⟩ := ask_wrong (m := m) (by simpa using hc13)
  refine fin_ret hF (resctt hF rfl rfl rfl rfl (hH.at 4 rfl) ty62 rfl) ⟨Asn.all [(1, .blk bt (.cells #[.map (some bm)] 122 (0, 0))), (2, .map KS LV bm m okm)], _, by rw [hA_, hF_, hE_] <;> rfl, by rw [hM_]; exact ⟨_, _, rfl⟩, grew_of (hH.sub [(1, .blk bt (.cells #[.map (some bm)] 122 (0, 0))), (2, .map KS LV bm m okm)] (sub_cons (sub_cons (sub_nil _) 2 rfl) 1 rfl)) (rdin_cons (fun k h => h.elim) (rdin_cons (fun k h => .inr (.inl ⟨2, _, rfl, h⟩)) rdin_nil)), ?_, ?_⟩
  ·rw [hA_]; exact RowOut.nil _ _ _ _
  ·exact fun k hk => by cases hk
 ·have hk13_2 := hc13; try simp only [Bool.or_eq_true, Bool.and_eq_true, Bool.or_eq_false_iff, Bool.and_eq_false_iff, Bool.not_eq_true', Bool.not_eq_false', decide_eq_true_eq, decide_eq_false_iff_not, Bool.not_true, Bool.not_false] at hc13
  have hr0 : rightQ r = true := by simpa using hc13
  refine wp_skip ?_
  refine hK2 _ _ ?_
  refine wp_seq_k fun khK6 hK6 => ?_
  refine r_start [(1, .blk bt (.cells #[.map (some bm)] 122 (0, 0))), (3, .blk b3 (.cells #[.string (strOfNums r.client), .int .i64 r.num, .slice Ar0 r.ops.length cr0] 45 (0, 0)))] (by kernel_rfl) hH fun hH => ?_
  have hS : SL [(1, .blk bt (.cells #[.map (some bm)] 122 (0, 0))), (3, .blk b3 (.cells #[.string (strOfNums r.client), .int .i64 r.num, .slice Ar0 r.ops.length cr0] 45 (0, 0)))] _ := SL.of hH (sub_cons (sub_cons (sub_nil _) 3 rfl) 1 rfl)
  refine r_take 0 hF rfl rfl rfl (by kernel_rfl) (by kernel_rfl) (by kernel_rfl) (fun _ _ _ h => h) rfl hS (fun w hS => x_move (hF.tmp 0 rfl)) rfl ?_; clear hF; intro a hF
  refine r_take 1 hF rfl rfl rfl (by kernel_rfl) (by kernel_rfl) (by kernel_rfl) (fun _ _ _ h => h) rfl hS (fun w hS => x_nil (hF.tmp 19 rfl)) rfl ?_; clear hF; intro a hF
  refine r_take 2 hF rfl rfl rfl (by kernel_rfl) (by kernel_rfl) (by kernel_rfl) (fun _ _ _ h => h) rfl hS (fun w hS => x_faddr Tryd.underlying122 rfl ty120 (by decide) (hF.tmp 20 rfl) rfl) rfl ?_; clear hF; intro a hF
  refine r_take 3 hF rfl rfl rfl (by kernel_rfl) (by kernel_rfl) (by kernel_rfl) (fun _ _ _ h => h) rfl hS (fun w hS => x_load1 ty120 (hF.tmp 21 rfl) (blk_cell (SL.at_ hS 1 rfl) 0 rfl)) rfl ?_; clear hF; intro a hF
  refine r_take 4 hF rfl rfl rfl (by kernel_rfl) (by kernel_rfl) (by kernel_rfl) (fun _ _ _ h => h) rfl hS (fun w hS => x_faddr Tryd.underlying45 rfl ty9 (by decide) (hF.tmp 3 rfl) rfl) rfl ?_; clear hF; intro a hF
  refine r_take 5 hF rfl rfl rfl (by kernel_rfl) (by kernel_rfl) (by kernel_rfl) (fun _ _ _ h => h) rfl hS (fun w hS => x_load1 ty9 (hF.tmp 23 rfl) (blk_cell (SL.at_ hS 3 rfl) 0 rfl)) rfl ?_; clear hF; intro a hF
  refine r_do2 6 10 rfl rfl (by kernel_rfl) rfl rfl rfl rfl ?_ ?_
  ·
   obtain ⟨vm25, hvm25, hlm25⟩ := (hH.map 2 rfl).look (P := Tryd.prog) Tryd.underlying120 Tryd.underlying9 ((ty124).zero _) last_zero (strOfNums r.client)
   replace hvm25 : LV.R _ _ (getT m (strOfNums r.client)) _ := hvm25
   obtain ⟨A25, c25, rfl, hr25⟩ := last_open hvm25
   have hH := hH.subrd 2 rfl 2025 hr25 (fun _ h => h)
   refine w_at hF (x_lookup hlm25 (hF.tmp 22 rfl) (hF.tmp 24 rfl)) rfl rfl ?_
   clear hF; intro a hF
   clear hS; have hS : SL _ _ := SL.of hH (sub_cons (sub_cons (sub_nil _) 3 rfl) 1 rfl); refine ⟨hS, ?_⟩
   refine r_take 7 hF rfl rfl rfl (by kernel_rfl) (by kernel_rfl) (by kernel_rfl) (fun _ _ _ h => h) rfl hS (fun w hS => x_move (hF.tmp 25 rfl)) rfl ?_; clear hF; intro a hF
   refine r_take 8 hF rfl rfl rfl (by kernel_rfl) (by kernel_rfl) (by kernel_rfl) (fun _ _ _ h => h) rfl hS (fun w hS => x_extract (hF.tmp 18 rfl) rfl) rfl ?_; clear hF; intro a hF
   refine r_take 9 hF rfl rfl rfl (by kernel_rfl) (by kernel_rfl) (by kernel_rfl) (fun _ _ _ h => h) rfl hS (fun w hS => x_extract (hF.tmp 18 rfl) rfl) rfl ?_; clear hF; intro a hF
   refine r_do 10 rfl (by kernel_rfl) rfl rfl ?_
   refine w_alloc 7 hF hH rfl ty124 ?_
   clear hF hH; intro a w b7 hF hH
   clear hS; have hS : SL _ _ := SL.of hH (sub_cons (sub_cons (sub_nil _) 3 rfl) 1 rfl); refine ⟨hS, ?_⟩
   refine r_do 11 rfl (by kernel_rfl) rfl rfl ?_
   refine w_storeA 7 hH ty124 rfl (hF.tmp 7 rfl) (hF.tmp 26 rfl) rfl (by simp [Value.cells, Value.oneCell']) rfl ?_
   clear hH; intro w hH
   clear hS; have hS : SL _ _ := SL.of hH (sub_cons (sub_cons (sub_nil _) 3 rfl) 1 rfl); refine ⟨hS, ?_⟩
   refine r_take 12 hF rfl rfl rfl (by kernel_rfl) (by kernel_rfl) (by kernel_rfl) (fun _ _ _ h => h) rfl hS (fun w hS => x_assign (hF.tmp 27 rfl)) rfl ?_; clear hF; intro a hF
   refine r_end (by kernel_rfl) ?_; clear hS
   refine hK6 _ _ ?_
   refine wp_seq_k fun khK7 hK7 => ?_
   refine wp_block ?_
   refine wp_seq_k fun khK8 hK8 => ?_
   refine wp_region_lit ?_
   refine l_at hF rfl rfl rfl (x_move (hF.tmp 8 rfl)) ?_; clear hF; intro a hF
   refine l_at hF rfl rfl rfl (x_move (hF.tmp 29 rfl)) ?_; clear hF; intro a hF
   refine split_bool hF 30 rfl (fun hb30 => ?_) (fun hb30 => ?_)
   ·have hc30 := hb30; try simp only [Bool.or_eq_true, Bool.and_eq_true, Bool.or_eq_false_iff, Bool.and_eq_false_iff, Bool.not_eq_true', Bool.not_eq_false', decide_eq_true_eq, decide_eq_false_iff_not, Bool.not_true, Bool.not_false] at hc30
    refine l_atg hF ((wanted_of hF rfl rfl rfl rfl).trans (by rw [hb30]; rfl)) rfl rfl (x_faddr Tryd.underlying124 rfl ty3 (by decide) (hF.tmp 7 rfl) rfl) ?_; clear hF; intro a hF
    refine l_atg hF ((wanted_of hF rfl rfl rfl rfl).trans (by rw [hb30]; rfl)) rfl rfl (x_load1 ty3 (hF.tmp 31 rfl) (blk_cell (hH.at 7 rfl) 0 rfl)) ?_; clear hF; intro a hF
    refine l_atg hF ((wanted_of hF rfl rfl rfl rfl).trans (by rw [hb30]; rfl)) rfl rfl (x_faddr Tryd.underlying45 rfl ty3 (by decide) (hF.tmp 3 rfl) rfl) ?_; clear hF; intro a hF
    refine l_atg hF ((wanted_of hF rfl rfl rfl rfl).trans (by rw [hb30]; rfl)) rfl rfl (x_load1 ty3 (hF.tmp 33 rfl) (blk_cell (hH.at 3 rfl) 1 rfl)) ?_; clear hF; intro a hF
    refine l_atg hF ((wanted_of hF rfl rfl rfl rfl).trans (by rw [hb30]; rfl)) rfl rfl (x_gtr (hF.tmp 32 rfl) (hF.tmp 34 rfl)) ?_; clear hF; intro a hF
    refine l_at hF rfl rfl rfl (x_pickT (hF.tmp 30 rfl) hb30 (hF.tmp 35 rfl)) ?_; clear hF; intro a hF
    refine l_at hF rfl rfl rfl (x_assign (hF.tmp 36 rfl)) ?_; clear hF; intro a hF
    refine wpList_nil ?_
    refine hK8 _ _ ?_
    refine wp_cond_split (hF.tmp 28 rfl) (fun hc28 => ?_) (fun hc28 => ?_)
    ·have hk28_3 := hc28; try simp only [Bool.or_eq_true, Bool.and_eq_true, Bool.or_eq_false_iff, Bool.and_eq_false_iff, Bool.not_eq_true', Bool.not_eq_false', decide_eq_true_eq, decide_eq_false_iff_not, Bool.not_true, Bool.not_false] at hc28
     refine wp_seq_k fun khK9 hK9 => ?_
     refine wp_region_lit ?_
     refine l_at hF rfl rfl rfl (x_buildS (cells := #[.int .i64 0, .int .i64 0, .slice none 0 0]) (places := #[(0, 1), (1, 1), (2, 1)]) Tryd.underlying62 ty62 (by kernel_rfl) Array.map_empty rfl) ?_; clear hF; intro a hF
     refine wpList_plain rfl fun K hK => ?_
     refine w_storeA 4 hH ty62 rfl (hF.tmp 4 rfl) (hF.tmp 37 rfl) rfl (by simp [Value.cells, Value.oneCell']) rfl ?_
     clear hH; intro w hH
     refine hK _ _ ?_; clear hK K
     refine l_at hF rfl rfl rfl (x_assign rfl) ?_; clear hF; intro a hF
     refine l_at hF rfl rfl rfl (x_assign rfl) ?_; clear hF; intro a hF
     refine wpList_nil ?_
     refine hK9 _ _ ?_
     refine wp_ret ?_
     try simp only [Exit.then, Exit.inBlock]
     obtain ⟨hA_, hF_, hE_, hM_⟩ := ask_late hr0 hc30 (by omega)
     refine fin_ret hF (resctt hF rfl rfl rfl rfl (hH.at 4 rfl) ty62 rfl) ⟨Asn.all [(1, .blk bt (.cells #[.map (some bm)] 122 (0, 0))), (2, .map KS LV bm m okm)], _, by rw [hA_, hF_, hE_] <;> rfl, by rw [hM_]; exact ⟨_, _, rfl⟩, grew_of (hH.sub [(1, .blk bt (.cells #[.map (some bm)] 122 (0, 0))), (2, .map KS LV bm m okm)] (sub_cons (sub_cons (sub_nil _) 2 rfl) 1 rfl)) (rdin_cons (fun k h => h.elim) (rdin_cons (fun k h => .inr (.inl ⟨2, _, rfl, h⟩)) rdin_nil)), ?_, ?_⟩
     ·rw [hA_]; exact RowOut.nil _ _ _ _
     ·exact fun k hk => by cases hk
    ·have hk28_4 := hc28; try simp only [Bool.or_eq_true, Bool.and_eq_true, Bool.or_eq_false_iff, Bool.and_eq_false_iff, Bool.not_eq_true', Bool.not_eq_false', decide_eq_true_eq, decide_eq_false_iff_not, Bool.not_true, Bool.not_false] at hc28
     refine wp_seq_k fun khK10 hK10 => ?_
     refine wp_region_lit ?_
     rw [hc30] at hF
     refine l_at hF rfl rfl rfl (x_move (hF.tmp 8 rfl)) ?_; clear hF; intro a hF
     refine l_at hF rfl rfl rfl (x_move (hF.tmp 39 rfl)) ?_; clear hF; intro a hF
     refine l_atg hF ((wanted_of hF rfl rfl rfl rfl).trans rfl) rfl rfl (x_faddr Tryd.underlying124 rfl ty3 (by decide) (hF.tmp 7 rfl) rfl) ?_; clear hF; intro a hF
     refine l_atg hF ((wanted_of hF rfl rfl rfl rfl).trans rfl) rfl rfl (x_load1 ty3 (hF.tmp 41 rfl) (blk_cell (hH.at 7 rfl) 0 rfl)) ?_; clear hF; intro a hF
     refine l_atg hF ((wanted_of hF rfl rfl rfl rfl).trans rfl) rfl rfl (x_faddr Tryd.underlying45 rfl ty3 (by decide) (hF.tmp 3 rfl) rfl) ?_; clear hF; intro a hF
     refine l_atg hF ((wanted_of hF rfl rfl rfl rfl).trans rfl) rfl rfl (x_load1 ty3 (hF.tmp 43 rfl) (blk_cell (hH.at 3 rfl) 1 rfl)) ?_; clear hF; intro a hF
     refine l_atg hF ((wanted_of hF rfl rfl rfl rfl).trans rfl) rfl rfl (x_eql (hF.tmp 42 rfl) (hF.tmp 44 rfl)) ?_; clear hF; intro a hF
     refine l_at hF rfl rfl rfl (x_pickT (hF.tmp 40 rfl) rfl (hF.tmp 45 rfl)) ?_; clear hF; intro a hF
     refine l_at hF rfl rfl rfl (x_assign (hF.tmp 46 rfl)) ?_; clear hF; intro a hF
     refine wpList_nil ?_
     refine hK10 _ _ ?_
     refine wp_cond_split (hF.tmp 38 rfl) (fun hc38 => ?_) (fun hc38 => ?_)
     ·have hk38_5 := hc38; try simp only [Bool.or_eq_true, Bool.and_eq_true, Bool.or_eq_false_iff, Bool.and_eq_false_iff, Bool.not_eq_true', Bool.not_eq_false', decide_eq_true_eq, decide_eq_false_iff_not, Bool.not_true, Bool.not_false] at hc38
      refine wp_seq_k fun khK11 hK11 => ?_
      refine r_start [(7, .blk b7 (.cells #[.int .i64 (getT m (strOfNums r.client)).number, .bool (getT m (strOfNums r.client)).finished, .int .i64 (getT m (strOfNums r.client)).ans.outcome, .int .i64 (getT m (strOfNums r.client)).ans.err, .slice A25 (getT m (strOfNums r.client)).ans.results.length c25] 124 (0, 0)))] (by kernel_rfl) hH fun hH => ?_
      have hS : SL [(7, .blk b7 (.cells #[.int .i64 (getT m (strOfNums r.client)).number, .bool (getT m (strOfNums r.client)).finished, .int .i64 (getT m (strOfNums r.client)).ans.outcome, .int .i64 (getT m (strOfNums r.client)).ans.err, .slice A25 (getT m (strOfNums r.client)).ans.results.length c25] 124 (0, 0)))] _ := SL.of hH (sub_cons (sub_nil _) 7 rfl)
      refine r_take 0 hF rfl rfl rfl (by kernel_rfl) (by kernel_rfl) (by kernel_rfl) (fun _ _ _ h => h) rfl hS (fun w hS => x_faddr Tryd.underlying124 rfl ty62 (by decide) (hF.tmp 7 rfl) rfl) rfl ?_; clear hF; intro a hF
      refine r_take 1 hF rfl rfl rfl (by kernel_rfl) (by kernel_rfl) (by kernel_rfl) (fun _ _ _ h => h) rfl hS (fun w hS => x_loadn (cs := #[.int .i64 (getT m (strOfNums r.client)).ans.outcome, .int .i64 (getT m (strOfNums r.client)).ans.err, .slice A25 (getT m (strOfNums r.client)).ans.results.length c25]) ty62 (hF.tmp 47 rfl) rfl (blk_sub (SL.at_ hS 7 rfl) 2 3 rfl)) rfl ?_; clear hF; intro a hF
      refine r_take 3 hF rfl rfl rfl (by kernel_rfl) (by kernel_rfl) (by kernel_rfl) (fun _ _ _ h => h) rfl hS (fun w hS => x_faddr Tryd.underlying124 rfl ty4 (by decide) (hF.tmp 7 rfl) rfl) rfl ?_; clear hF; intro a hF
      refine r_take 4 hF rfl rfl rfl (by kernel_rfl) (by kernel_rfl) (by kernel_rfl) (fun _ _ _ h => h) rfl hS (fun w hS => x_load1 ty4 (hF.tmp 50 rfl) (blk_cell (SL.at_ hS 7 rfl) 1 rfl)) rfl ?_; clear hF; intro a hF
      refine r_do 2 rfl (by kernel_rfl) rfl rfl ?_
      refine w_call hF (x_enter Tryd.func61 (by kernel_rfl) rfl (by simp only [List.map_toArray, List.map_cons, List.map_nil, hF.tmp 48 rfl] <;> rfl)) (copied_calls (y := (getT m (strOfNums r.client)).ans) _ ((hH.rd 2025 rfl)) (hs _).2) rfl rfl ?_
      rintro _ w ⟨vr49, rfl, hm_, hr_⟩; refine ⟨_, rfl, ?_⟩; clear hF; intro a hF; have hH := Hp.rowOut hH 49 hm_ hr_; obtain ⟨Ar49, cr49, rfl⟩ := (hH.row 49 rfl).form
      clear hS; have hS : SL _ _ := SL.of hH (sub_cons (sub_nil _) 7 rfl); refine ⟨hS, ?_⟩
      refine r_do 5 rfl (by kernel_rfl) rfl rfl ?_
      refine w_storeA 4 hH ty62 rfl (hF.tmp 4 rfl) (hF.tmp 49 rfl) rfl (by simp [Value.cells, Value.oneCell']) rfl ?_
      clear hH; intro w hH
      clear hS; have hS : SL _ _ := SL.of hH (sub_cons (sub_nil _) 7 rfl); refine ⟨hS, ?_⟩
      refine r_take 6 hF rfl rfl rfl (by kernel_rfl) (by kernel_rfl) (by kernel_rfl) (fun _ _ _ h => h) rfl hS (fun w hS => x_assign (hF.tmp 51 rfl)) rfl ?_; clear hF; intro a hF
      refine r_take 7 hF rfl rfl rfl (by kernel_rfl) (by kernel_rfl) (by kernel_rfl) (fun _ _ _ h => h) rfl hS (fun w hS => x_assign rfl) rfl ?_; clear hF; intro a hF
      refine r_end (by kernel_rfl) ?_; clear hS
      refine hK11 _ _ ?_
      refine wp_ret ?_
      try simp only [Exit.then, Exit.inBlock]
      obtain ⟨hA_, hF_, hE_, hM_⟩ := ask_hit hr0 hc30 (by omega)
      refine fin_ret hF (resctt hF rfl rfl rfl rfl (hH.at 4 rfl) ty62 rfl) ⟨Asn.all [(1, .blk bt (.cells #[.map (some bm)] 122 (0, 0))), (2, .map KS LV bm m okm)], _, by rw [hA_, hF_, hE_] <;> rfl, by rw [hM_]; exact ⟨_, _, rfl⟩, grew_of (hH.sub [(1, .blk bt (.cells #[.map (some bm)] 122 (0, 0))), (2, .map KS LV bm m okm)] (sub_cons (sub_cons (sub_nil _) 2 rfl) 1 rfl)) (rdin_cons (fun k h => h.elim) (rdin_cons (fun k h => .inr (.inl ⟨2, _, rfl, h⟩)) rdin_nil)), ?_, ?_⟩
      ·rw [hA_]; exact ⟨hH.row 49 rfl, fun k hk => (hH.mine 49 _ rfl k hk).resolve_left (fun h => lab_apart hH (sub_cons (sub_cons (sub_nil _) 2 rfl) 1 rfl) 49 rfl rfl hk (.inl h))⟩
      ·exact fun k hk => lab_apart hH (sub_cons (sub_cons (sub_nil _) 2 rfl) 1 rfl) 49 rfl rfl hk
     ·have hk38_6 := hc38; try simp only [Bool.or_eq_true, Bool.and_eq_true, Bool.or_eq_false_iff, Bool.and_eq_false_iff, Bool.not_eq_true', Bool.not_eq_false', decide_eq_true_eq, decide_eq_false_iff_not, Bool.not_true, Bool.not_false] at hc38
      refine wp_seq_k fun khK12 hK12 => ?_
      refine wp_region_lit ?_
      refine l_at hF rfl rfl rfl (x_move (hF.tmp 8 rfl)) ?_; clear hF; intro a hF
      refine l_at hF rfl rfl rfl (x_move (hF.tmp 53 rfl)) ?_; clear hF; intro a hF
      refine l_atg hF ((wanted_of hF rfl rfl rfl rfl).trans rfl) rfl rfl (x_faddr Tryd.underlying124 rfl ty4 (by decide) (hF.tmp 7 rfl) rfl) ?_; clear hF; intro a hF
      refine l_atg hF ((wanted_of hF rfl rfl rfl rfl).trans rfl) rfl rfl (x_load1 ty4 (hF.tmp 55 rfl) (blk_cell (hH.at 7 rfl) 1 rfl)) ?_; clear hF; intro a hF
      refine l_atg hF ((wanted_of hF rfl rfl rfl rfl).trans rfl) rfl rfl (x_not (hF.tmp 56 rfl)) ?_; clear hF; intro a hF
      refine l_at hF rfl rfl rfl (x_pickT (hF.tmp 54 rfl) rfl (hF.tmp 57 rfl)) ?_; clear hF; intro a hF
      refine l_at hF rfl rfl rfl (x_assign (hF.tmp 58 rfl)) ?_; clear hF; intro a hF
      refine wpList_nil ?_
      refine hK12 _ _ ?_
      refine wp_cond_split (hF.tmp 52 rfl) (fun hc52 => ?_) (fun hc52 => ?_)
      ·have hk52_7 := hc52; try simp only [Bool.or_eq_true, Bool.and_eq_true, Bool.or_eq_false_iff, Bool.and_eq_false_iff, Bool.not_eq_true', Bool.not_eq_false', decide_eq_true_eq, decide_eq_false_iff_not, Bool.not_true, Bool.not_false] at hc52
       refine wp_seq_k fun khK13 hK13 => ?_
       refine wp_region_lit ?_
       refine l_at hF rfl rfl rfl (x_buildS (cells := #[.int .i64 0, .int .i64 0, .slice none 0 0]) (places := #[(0, 1), (1, 1), (2, 1)]) Tryd.underlying62 ty62 (by kernel_rfl) Array.map_empty rfl) ?_; clear hF; intro a hF
       refine wpList_plain rfl fun K hK => ?_
       refine w_storeA 4 hH ty62 rfl (hF.tmp 4 rfl) (hF.tmp 59 rfl) rfl (by simp [Value.cells, Value.oneCell']) rfl ?_
       clear hH; intro w hH
       refine hK _ _ ?_; clear hK K
       refine l_at hF rfl rfl rfl (x_assign rfl) ?_; clear hF; intro a hF
       refine l_at hF rfl rfl rfl (x_assign rfl) ?_; clear hF; intro a hF
       refine wpList_nil ?_
       refine hK13 _ _ ?_
       refine wp_ret ?_
       try simp only [Exit.then, Exit.inBlock]
       obtain ⟨hA_, hF_, hE_, hM_⟩ := ask_busy hr0 hc30 (by omega) (by omega) (by first | assumption | simpa using hc52)
       refine fin_ret hF (resctt hF rfl rfl rfl rfl (hH.at 4 rfl) ty62 rfl) ⟨Asn.all [(1, .blk bt (.cells #[.map (some bm)] 122 (0, 0))), (2, .map KS LV bm m okm)], _, by rw [hA_, hF_, hE_] <;> rfl, by rw [hM_]; exact ⟨_, _, rfl⟩, grew_of (hH.sub [(1, .blk bt (.cells #[.map (some bm)] 122 (0, 0))), (2, .map KS LV bm m okm)] (sub_cons (sub_cons (sub_nil _) 2 rfl) 1 rfl)) (rdin_cons (fun k h => h.elim) (rdin_cons (fun k h => .inr (.inl ⟨2, _, rfl, h⟩)) rdin_nil)), ?_, ?_⟩
       ·rw [hA_]; exact RowOut.nil _ _ _ _
       ·exact fun k hk => by cases hk
      ·have hk52_8 := hc52; try simp only [Bool.or_eq_true, Bool.and_eq_true, Bool.or_eq_false_iff, Bool.and_eq_false_iff, Bool.not_eq_true', Bool.not_eq_false', decide_eq_true_eq, decide_eq_false_iff_not, Bool.not_true, Bool.not_false] at hc52
       refine wp_skip ?_
       refine hK7 _ _ ?_
       refine wp_seq_k fun khK14 hK14 => ?_
       refine r_start [(1, .blk bt (.cells #[.map (some bm)] 122 (0, 0))), (3, .blk b3 (.cells #[.string (strOfNums r.client), .int .i64 r.num, .slice Ar0 r.ops.length cr0] 45 (0, 0)))] (by kernel_rfl) hH fun hH => ?_
       have hS : SL [(1, .blk bt (.cells #[.map (some bm)] 122 (0, 0))), (3, .blk b3 (.cells #[.string (strOfNums r.client), .int .i64 r.num, .slice Ar0 r.ops.length cr0] 45 (0, 0)))] _ := SL.of hH (sub_cons (sub_cons (sub_nil _) 3 rfl) 1 rfl)
       refine r_take 0 hF rfl rfl rfl (by kernel_rfl) (by kernel_rfl) (by kernel_rfl) (fun _ _ _ h => h) rfl hS (fun w hS => x_move (hF.tmp 0 rfl)) rfl ?_; clear hF; intro a hF
       refine r_take 1 hF rfl rfl rfl (by kernel_rfl) (by kernel_rfl) (by kernel_rfl) (fun _ _ _ h => h) rfl hS (fun w hS => x_nil (hF.tmp 60 rfl)) rfl ?_; clear hF; intro a hF
       refine r_take 2 hF rfl rfl rfl (by kernel_rfl) (by kernel_rfl) (by kernel_rfl) (fun _ _ _ h => h) rfl hS (fun w hS => x_faddr Tryd.underlying122 rfl ty120 (by decide) (hF.tmp 61 rfl) rfl) rfl ?_; clear hF; intro a hF
       refine r_take 3 hF rfl rfl rfl (by kernel_rfl) (by kernel_rfl) (by kernel_rfl) (fun _ _ _ h => h) rfl hS (fun w hS => x_load1 ty120 (hF.tmp 62 rfl) (blk_cell (SL.at_ hS 1 rfl) 0 rfl)) rfl ?_; clear hF; intro a hF
       refine r_take 4 hF rfl rfl rfl (by kernel_rfl) (by kernel_rfl) (by kernel_rfl) (fun _ _ _ h => h) rfl hS (fun w hS => x_faddr Tryd.underlying45 rfl ty9 (by decide) (hF.tmp 3 rfl) rfl) rfl ?_; clear hF; intro a hF
       refine r_take 5 hF rfl rfl rfl (by kernel_rfl) (by kernel_rfl) (by kernel_rfl) (fun _ _ _ h => h) rfl hS (fun w hS => x_load1 ty9 (hF.tmp 64 rfl) (blk_cell (SL.at_ hS 3 rfl) 0 rfl)) rfl ?_; clear hF; intro a hF
       refine r_take 6 hF rfl rfl rfl (by kernel_rfl) (by kernel_rfl) (by kernel_rfl) (fun _ _ _ h => h) rfl hS (fun w hS => x_faddr Tryd.underlying45 rfl ty3 (by decide) (hF.tmp 3 rfl) rfl) rfl ?_; clear hF; intro a hF
       refine r_take 7 hF rfl rfl rfl (by kernel_rfl) (by kernel_rfl) (by kernel_rfl) (fun _ _ _ h => h) rfl hS (fun w hS => x_load1 ty3 (hF.tmp 66 rfl) (blk_cell (SL.at_ hS 3 rfl) 1 rfl)) rfl ?_; clear hF; intro a hF
       refine r_take 8 hF rfl rfl rfl (by kernel_rfl) (by kernel_rfl) (by kernel_rfl) (fun _ _ _ h => h) rfl hS (fun w hS => x_buildS (cells := #[.int .i64 r.num, .bool false, .int .i64 0, .int .i64 0, .slice none 0 0]) (places := #[(0, 1), (1, 1), (2, 3)]) Tryd.underlying124 ty124 (by kernel_rfl) (by simp only [List.map_toArray, List.map_cons, List.map_nil, hF.tmp 67 rfl] <;> rfl) rfl) rfl ?_; clear hF; intro a hF
       refine r_do 9 rfl (by kernel_rfl) rfl rfl ?_
       refine w_mapSet 2 (k := (strOfNums r.client)) (yv := (⟨r.num, false, ans0⟩ : LastD)) okm hH rfl Tryd.underlying120 Tryd.underlying9 (hF.tmp 63 rfl) (hF.tmp 65 rfl) (hF.tmp 68 rfl) (last_put (x := (⟨r.num, false, ans0⟩ : LastD)) (Rd.nil _ _ _)) (fun k hk => hk) (fun k hk => .inl hk) ?_
       clear hH; intro w hH
       clear hS; have hS : SL _ _ := SL.of hH (sub_cons (sub_cons (sub_nil _) 3 rfl) 1 rfl); refine ⟨hS, ?_⟩
       refine r_end (by kernel_rfl) ?_; clear hS
       refine hK14 _ _ ?_
       refine wp_seq_k fun khK15 hK15 => ?_
       refine wp_region_lit ?_
       refine l_at hF rfl rfl rfl (x_buildS (cells := #[.int .i64 0, .int .i64 0, .slice none 0 0]) (places := #[(0, 1), (1, 1), (2, 1)]) Tryd.underlying62 ty62 (by kernel_rfl) Array.map_empty rfl) ?_; clear hF; intro a hF
       refine wpList_plain rfl fun K hK => ?_
       refine w_storeA 4 hH ty62 rfl (hF.tmp 4 rfl) (hF.tmp 69 rfl) rfl (by simp [Value.cells, Value.oneCell']) rfl ?_
       clear hH; intro w hH
       refine hK _ _ ?_; clear hK K
       refine l_at hF rfl rfl rfl (x_assign rfl) ?_; clear hF; intro a hF
       refine l_at hF rfl rfl rfl (x_assign rfl) ?_; clear hF; intro a hF
       refine wpList_nil ?_
       refine hK15 _ _ ?_
       refine wp_ret ?_
       try simp only [Exit.then, Exit.inBlock]
       obtain ⟨hA_, hF_, hE_, hM_⟩ := ask_new hr0 (.inr ⟨hc30, by omega, by omega, by first | assumption | simpa using hc52⟩)
       refine fin_ret hF (resctt hF rfl rfl rfl rfl (hH.at 4 rfl) ty62 rfl) ⟨Asn.all [(1, .blk bt (.cells #[.map (some bm)] 122 (0, 0))), (2, .map KS LV bm (mput m (strOfNums r.client) (⟨r.num, false, ans0⟩ : LastD)) okm)], _, by rw [hA_, hF_, hE_] <;> rfl, by rw [hM_]; exact ⟨_, _, rfl⟩, grew_of (hH.sub [(1, .blk bt (.cells #[.map (some bm)] 122 (0, 0))), (2, .map KS LV bm (mput m (strOfNums r.client) (⟨r.num, false, ans0⟩ : LastD)) okm)] (sub_cons (sub_cons (sub_nil _) 2 rfl) 1 rfl)) (rdin_cons (fun k h => h.elim) (rdin_cons (fun k h => .inr (.inl ⟨2, _, rfl, h⟩)) rdin_nil)), ?_, ?_⟩
       ·rw [hA_]; exact RowOut.nil _ _ _ _
       ·exact fun k hk => by cases hk
   ·have hc30 := hb30; try simp only [Bool.or_eq_true, Bool.and_eq_true, Bool.or_eq_false_iff, Bool.and_eq_false_iff, Bool.not_eq_true', Bool.not_eq_false', decide_eq_true_eq, decide_eq_false_iff_not, Bool.not_true, Bool.not_false] at hc30
    refine l_offg hF ((wanted_of hF rfl rfl rfl rfl).trans (by rw [hb30]; rfl)) rfl rfl ?_; clear hF; intro a hF
    refine l_offg hF ((wanted_of hF rfl rfl rfl rfl).trans (by rw [hb30]; rfl)) rfl rfl ?_; clear hF; intro a hF
    refine l_offg hF ((wanted_of hF rfl rfl rfl rfl).trans (by rw [hb30]; rfl)) rfl rfl ?_; clear hF; intro a hF
    refine l_offg hF ((wanted_of hF rfl rfl rfl rfl).trans (by rw [hb30]; rfl)) rfl rfl ?_; clear hF; intro a hF
    refine l_offg hF ((wanted_of hF rfl rfl rfl rfl).trans (by rw [hb30]; rfl)) rfl rfl ?_; clear hF; intro a hF
    refine l_at hF rfl rfl rfl (x_pickF (hF.tmp 30 rfl) hb30 rfl) ?_; clear hF; intro a hF
    refine l_at hF rfl rfl rfl (x_assign (hF.tmp 36 rfl)) ?_; clear hF; intro a hF
    refine wpList_nil ?_
    refine hK8 _ _ ?_
    refine wp_cond_false (hF.tmp 28 rfl) ?_
    refine wp_seq_k fun khK16 hK16 => ?_
    refine wp_region_lit ?_
    rw [hc30] at hF
    refine l_at hF rfl rfl rfl (x_move (hF.tmp 8 rfl)) ?_; clear hF; intro a hF
    refine l_at hF rfl rfl rfl (x_move (hF.tmp 39 rfl)) ?_; clear hF; intro a hF
    refine l_offg hF ((wanted_of hF rfl rfl rfl rfl).trans rfl) rfl rfl ?_; clear hF; intro a hF
    refine l_offg hF ((wanted_of hF rfl rfl rfl rfl).trans rfl) rfl rfl ?_; clear hF; intro a hF
    refine l_offg hF ((wanted_of hF rfl rfl rfl rfl).trans rfl) rfl rfl ?_; clear hF; intro a hF
    refine l_offg hF ((wanted_of hF rfl rfl rfl rfl).trans rfl) rfl rfl ?_; clear hF; intro a hF
    refine l_offg hF ((wanted_of hF rfl rfl rfl rfl).trans rfl) rfl rfl ?_; clear hF; intro a hF
    refine l_at hF rfl rfl rfl (x_pickF (hF.tmp 40 rfl) rfl rfl) ?_; clear hF; intro a hF
    refine l_at hF rfl rfl rfl (x_assign (hF.tmp 46 rfl)) ?_; clear hF; intro a hF
    refine wpList_nil ?_
    refine hK16 _ _ ?_
    refine wp_cond_false (hF.tmp 38 rfl) ?_
    refine wp_seq_k fun khK17 hK17 => ?_
    refine wp_region_lit ?_
    refine l_at hF rfl rfl rfl (x_move (hF.tmp 8 rfl)) ?_; clear hF; intro a hF
    refine l_at hF rfl rfl rfl (x_move (hF.tmp 53 rfl)) ?_; clear hF; intro a hF
    refine l_offg hF ((wanted_of hF rfl rfl rfl rfl).trans rfl) rfl rfl ?_; clear hF; intro a hF
    refine l_offg hF ((wanted_of hF rfl rfl rfl rfl).trans rfl) rfl rfl ?_; clear hF; intro a hF
    refine l_offg hF ((wanted_of hF rfl rfl rfl rfl).trans rfl) rfl rfl ?_; clear hF; intro a hF
    refine l_at hF rfl rfl rfl (x_pickF (hF.tmp 54 rfl) rfl rfl) ?_; clear hF; intro a hF
    refine l_at hF rfl rfl rfl (x_assign (hF.tmp 58 rfl)) ?_; clear hF; intro a hF
    refine wpList_nil ?_
    refine hK17 _ _ ?_
    refine wp_cond_false (hF.tmp 52 rfl) ?_
    refine wp_skip ?_
    refine hK7 _ _ ?_
    refine wp_seq_k fun khK18 hK18 => ?_
    refine r_start [(1, .blk bt (.cells #[.map (some bm)] 122 (0, 0))), (3, .blk b3 (.cells #[.string (strOfNums r.client), .int .i64 r.num, .slice Ar0 r.ops.length cr0] 45 (0, 0)))] (by kernel_rfl) hH fun hH => ?_
    have hS : SL [(1, .blk bt (.cells #[.map (some bm)] 122 (0, 0))), (3, .blk b3 (.cells #[.string (strOfNums r.client), .int .i64 r.num, .slice Ar0 r.ops.length cr0] 45 (0, 0)))] _ := SL.of hH (sub_cons (sub_cons (sub_nil _) 3 rfl) 1 rfl)
    refine r_take 0 hF rfl rfl rfl (by kernel_rfl) (by kernel_rfl) (by kernel_rfl) (fun _ _ _ h => h) rfl hS (fun w hS => x_move (hF.tmp 0 rfl)) rfl ?_; clear hF; intro a hF
    refine r_take 1 hF rfl rfl rfl (by kernel_rfl) (by kernel_rfl) (by kernel_rfl) (fun _ _ _ h => h) rfl hS (fun w hS => x_nil (hF.tmp 60 rfl)) rfl ?_; clear hF; intro a hF
    refine r_take 2 hF rfl rfl rfl (by kernel_rfl) (by kernel_rfl) (by kernel_rfl) (fun _ _ _ h => h) rfl hS (fun w hS => x_faddr Tryd.underlying122 rfl ty120 (by decide) (hF.tmp 61 rfl) rfl) rfl ?_; clear hF; intro a hF
    refine r_take 3 hF rfl rfl rfl (by kernel_rfl) (by kernel_rfl) (by kernel_rfl) (fun _ _ _ h => h) rfl hS (fun w hS => x_load1 ty120 (hF.tmp 62 rfl) (blk_cell (SL.at_ hS 1 rfl) 0 rfl)) rfl ?_; clear hF; intro a hF
    refine r_take 4 hF rfl rfl rfl (by kernel_rfl) (by kernel_rfl) (by kernel_rfl) (fun _ _ _ h => h) rfl hS (fun w hS => x_faddr Tryd.underlying45 rfl ty9 (by decide) (hF.tmp 3 rfl) rfl) rfl ?_; clear hF; intro a hF
    refine r_take 5 hF rfl rfl rfl (by kernel_rfl) (by kernel_rfl) (by kernel_rfl) (fun _ _ _ h => h) rfl hS (fun w hS => x_load1 ty9 (hF.tmp 64 rfl) (blk_cell (SL.at_ hS 3 rfl) 0 rfl)) rfl ?_; clear hF; intro a hF
    refine r_take 6 hF rfl rfl rfl (by kernel_rfl) (by kernel_rfl) (by kernel_rfl) (fun _ _ _ h => h) rfl hS (fun w hS => x_faddr Tryd.underlying45 rfl ty3 (by decide) (hF.tmp 3 rfl) rfl) rfl ?_; clear hF; intro a hF
    refine r_take 7 hF rfl rfl rfl (by kernel_rfl) (by kernel_rfl) (by kernel_rfl) (fun _ _ _ h => h) rfl hS (fun w hS => x_load1 ty3 (hF.tmp 66 rfl) (blk_cell (SL.at_ hS 3 rfl) 1 rfl)) rfl ?_; clear hF; intro a hF
    refine r_take 8 hF rfl rfl rfl (by kernel_rfl) (by kernel_rfl) (by kernel_rfl) (fun _ _ _ h => h) rfl hS (fun w hS => x_buildS (cells := #[.int .i64 r.num, .bool false, .int .i64 0, .int .i64 0, .slice none 0 0]) (places := #[(0, 1), (1, 1), (2, 3)]) Tryd.underlying124 ty124 (by kernel_rfl) (by simp only [List.map_toArray, List.map_cons, List.map_nil, hF.tmp 67 rfl] <;> rfl) rfl) rfl ?_; clear hF; intro a hF
    refine r_do 9 rfl (by kernel_rfl) rfl rfl ?_
    refine w_mapSet 2 (k := (strOfNums r.client)) (yv := (⟨r.num, false, ans0⟩ : LastD)) okm hH rfl Tryd.underlying120 Tryd.underlying9 (hF.tmp 63 rfl) (hF.tmp 65 rfl) (hF.tmp 68 rfl) (last_put (x := (⟨r.num, false, ans0⟩ : LastD)) (Rd.nil _ _ _)) (fun k hk => hk) (fun k hk => .inl hk) ?_
    clear hH; intro w hH
    clear hS; have hS : SL _ _ := SL.of hH (sub_cons (sub_cons (sub_nil _) 3 rfl) 1 rfl); refine ⟨hS, ?_⟩
    refine r_end (by kernel_rfl) ?_; clear hS
    refine hK18 _ _ ?_
    refine wp_seq_k fun khK19 hK19 => ?_
    refine wp_region_lit ?_
    refine l_at hF rfl rfl rfl (x_buildS (cells := #[.int .i64 0, .int .i64 0, .slice none 0 0]) (places := #[(0, 1), (1, 1), (2, 1)]) Tryd.underlying62 ty62 (by kernel_rfl) Array.map_empty rfl) ?_; clear hF; intro a hF
    refine wpList_plain rfl fun K hK => ?_
    refine w_storeA 4 hH ty62 rfl (hF.tmp 4 rfl) (hF.tmp 69 rfl) rfl (by simp [Value.cells, Value.oneCell']) rfl ?_
    clear hH; intro w hH
    refine hK _ _ ?_; clear hK K
    refine l_at hF rfl rfl rfl (x_assign rfl) ?_; clear hF; intro a hF
    refine l_at hF rfl rfl rfl (x_assign rfl) ?_; clear hF; intro a hF
    refine wpList_nil ?_
    refine hK19 _ _ ?_
    refine wp_ret ?_
    try simp only [Exit.then, Exit.inBlock]
    obtain ⟨hA_, hF_, hE_, hM_⟩ := ask_new hr0 (.inl hc30)
    refine fin_ret hF (resctt hF rfl rfl rfl rfl (hH.at 4 rfl) ty62 rfl) ⟨Asn.all [(1, .blk bt (.cells #[.map (some bm)] 122 (0, 0))), (2, .map KS LV bm (mput m (strOfNums r.client) (⟨r.num, false, ans0⟩ : LastD)) okm)], _, by rw [hA_, hF_, hE_] <;> rfl, by rw [hM_]; exact ⟨_, _, rfl⟩, grew_of (hH.sub [(1, .blk bt (.cells #[.map (some bm)] 122 (0, 0))), (2, .map KS LV bm (mput m (strOfNums r.client) (⟨r.num, false, ans0⟩ : LastD)) okm)] (sub_cons (sub_cons (sub_nil _) 2 rfl) 1 rfl)) (rdin_cons (fun k h => h.elim) (rdin_cons (fun k h => .inr (.inl ⟨2, _, rfl, h⟩)) rdin_nil)), ?_, ?_⟩
    ·rw [hA_]; exact RowOut.nil _ _ _ _
    ·exact fun k hk => by cases hk
  ·
   refine w_alloc 7 hF hH rfl ty124 ?_
   clear hF hH; intro a w b7 hF hH
   clear hS; have hS : SL _ _ := SL.of hH (sub_cons (sub_cons (sub_nil _) 3 rfl) 1 rfl); refine ⟨hS, ?_⟩
   obtain ⟨vm25, hvm25, hlm25⟩ := (hH.map 2 rfl).look (P := Tryd.prog) Tryd.underlying120 Tryd.underlying9 ((ty124).zero _) last_zero (strOfNums r.client)
   replace hvm25 : LV.R _ _ (getT m (strOfNums r.client)) _ := hvm25
   obtain ⟨A25, c25, rfl, hr25⟩ := last_open hvm25
   have hH := hH.subrd 2 rfl 2025 hr25 (fun _ h => h)
   refine r_do 6 rfl (by kernel_rfl) rfl rfl ?_
   refine w_at hF (x_lookup hlm25 (hF.tmp 22 rfl) (hF.tmp 24 rfl)) rfl rfl ?_
   clear hF; intro a hF
   clear hS; have hS : SL _ _ := SL.of hH (sub_cons (sub_cons (sub_nil _) 3 rfl) 1 rfl); refine ⟨hS, ?_⟩
   refine r_take 7 hF rfl rfl rfl (by kernel_rfl) (by kernel_rfl) (by kernel_rfl) (fun _ _ _ h => h) rfl hS (fun w hS => x_move (hF.tmp 25 rfl)) rfl ?_; clear hF; intro a hF
   refine r_take 8 hF rfl rfl rfl (by kernel_rfl) (by kernel_rfl) (by kernel_rfl) (fun _ _ _ h => h) rfl hS (fun w hS => x_extract (hF.tmp 18 rfl) rfl) rfl ?_; clear hF; intro a hF
   refine r_take 9 hF rfl rfl rfl (by kernel_rfl) (by kernel_rfl) (by kernel_rfl) (fun _ _ _ h => h) rfl hS (fun w hS => x_extract (hF.tmp 18 rfl) rfl) rfl ?_; clear hF; intro a hF
   refine r_do 11 rfl (by kernel_rfl) rfl rfl ?_
   refine w_storeA 7 hH ty124 rfl (hF.tmp 7 rfl) (hF.tmp 26 rfl) rfl (by simp [Value.cells, Value.oneCell']) rfl ?_
   clear hH; intro w hH
   clear hS; have hS : SL _ _ := SL.of hH (sub_cons (sub_cons (sub_nil _) 3 rfl) 1 rfl); refine ⟨hS, ?_⟩
   refine r_take 12 hF rfl rfl rfl (by kernel_rfl) (by kernel_rfl) (by kernel_rfl) (fun _ _ _ h => h) rfl hS (fun w hS => x_assign (hF.tmp 27 rfl)) rfl ?_; clear hF; intro a hF
   refine r_end (by kernel_rfl) ?_; clear hS
   refine hK6 _ _ ?_
   refine wp_seq_k fun khK20 hK20 => ?_
   refine wp_block ?_
   refine wp_seq_k fun khK21 hK21 => ?_
   refine wp_region_lit ?_
   refine l_at hF rfl rfl rfl (x_move (hF.tmp 8 rfl)) ?_; clear hF; intro a hF
   refine l_at hF rfl rfl rfl (x_move (hF.tmp 29 rfl)) ?_; clear hF; intro a hF
   refine split_bool hF 30 rfl (fun hb30 => ?_) (fun hb30 => ?_)
   ·have hc30 := hb30; try simp only [Bool.or_eq_true, Bool.and_eq_true, Bool.or_eq_false_iff, Bool.and_eq_false_iff, Bool.not_eq_true', Bool.not_eq_false', decide_eq_true_eq, decide_eq_false_iff_not, Bool.not_true, Bool.not_false] at hc30
    refine l_atg hF ((wanted_of hF rfl rfl rfl rfl).trans (by rw [hb30]; rfl)) rfl rfl (x_faddr Tryd.underlying124 rfl ty3 (by decide) (hF.tmp 7 rfl) rfl) ?_; clear hF; intro a hF
    refine l_atg hF ((wanted_of hF rfl rfl rfl rfl).trans (by rw [hb30]; rfl)) rfl rfl (x_load1 ty3 (hF.tmp 31 rfl) (blk_cell (hH.at 7 rfl) 0 rfl)) ?_; clear hF; intro a hF
    refine l_atg hF ((wanted_of hF rfl rfl rfl rfl).trans (by rw [hb30]; rfl)) rfl rfl (x_faddr Tryd.underlying45 rfl ty3 (by decide) (hF.tmp 3 rfl) rfl) ?_; clear hF; intro a hF
    refine l_atg hF ((wanted_of hF rfl rfl rfl rfl).trans (by rw [hb30]; rfl)) rfl rfl (x_load1 ty3 (hF.tmp 33 rfl) (blk_cell (hH.at 3 rfl) 1 rfl)) ?_; clear hF; intro a hF
    refine l_atg hF ((wanted_of hF rfl rfl rfl rfl).trans (by rw [hb30]; rfl)) rfl rfl (x_gtr (hF.tmp 32 rfl) (hF.tmp 34 rfl)) ?_; clear hF; intro a hF
    refine l_at hF rfl rfl rfl (x_pickT (hF.tmp 30 rfl) hb30 (hF.tmp 35 rfl)) ?_; clear hF; intro a hF
    refine l_at hF rfl rfl rfl (x_assign (hF.tmp 36 rfl)) ?_; clear hF; intro a hF
    refine wpList_nil ?_
    refine hK21 _ _ ?_
    refine wp_cond_split (hF.tmp 28 rfl) (fun hc28 => ?_) (fun hc28 => ?_)
    ·have hk28_9 := hc28; try simp only [Bool.or_eq_true, Bool.and_eq_true, Bool.or_eq_false_iff, Bool.and_eq_false_iff, Bool.not_eq_true', Bool.not_eq_false', decide_eq_true_eq, decide_eq_false_iff_not, Bool.not_true, Bool.not_false] at hc28
     refine wp_seq_k fun khK22 hK22 => ?_
     refine wp_region_lit ?_
     refine l_at hF rfl rfl rfl (x_buildS (cells := #[.int .i64 0, .int .i64 0, .slice none 0 0]) (places := #[(0, 1), (1, 1), (2, 1)]) Tryd.underlying62 ty62 (by kernel_rfl) Array.map_empty rfl) ?_; clear hF; intro a hF
     refine wpList_plain rfl fun K hK => ?_
     refine w_storeA 4 hH ty62 rfl (hF.tmp 4 rfl) (hF.tmp 37 rfl) rfl (by simp [Value.cells, Value.oneCell']) rfl ?_
     clear hH; intro w hH
     refine hK _ _ ?_; clear hK K
     refine l_at hF rfl rfl rfl (x_assign rfl) ?_; clear hF; intro a hF
     refine l_at hF rfl rfl rfl (x_assign rfl) ?_; clear hF; intro a hF
     refine wpList_nil ?_
     refine hK22 _ _ ?_
     refine wp_ret ?_
     try simp only [Exit.then, Exit.inBlock]
     obtain ⟨hA_, hF_, hE_, hM_⟩ := ask_late hr0 hc30 (by omega)
     refine fin_ret hF (resctt hF rfl rfl rfl rfl (hH.at 4 rfl) ty62 rfl) ⟨Asn.all [(1, .blk bt (.cells #[.map (some bm)] 122 (0, 0))), (2, .map KS LV bm m okm)], _, by rw [hA_, hF_, hE_] <;> rfl, by rw [hM_]; exact ⟨_, _, rfl⟩, grew_of (hH.sub [(1, .blk bt (.cells #[.map (some bm)] 122 (0, 0))), (2, .map KS LV bm m okm)] (sub_cons (sub_cons (sub_nil _) 2 rfl) 1 rfl)) (rdin_cons (fun k h => h.elim) (rdin_cons (fun k h => .inr (.inl ⟨2, _, rfl, h⟩)) rdin_nil)), ?_, ?_⟩
     ·rw [hA_]; exact RowOut.nil _ _ _ _
     ·exact fun k hk => by cases hk
    ·have hk28_10 := hc28; try simp only [Bool.or_eq_true, Bool.and_eq_true, Bool.or_eq_false_iff, Bool.and_eq_false_iff, Bool.not_eq_true', Bool.not_eq_false', decide_eq_true_eq, decide_eq_false_iff_not, Bool.not_true, Bool.not_false] at hc28
     refine wp_seq_k fun khK23 hK23 => ?_
     refine wp_region_lit ?_
     rw [hc30] at hF
     refine l_at hF rfl rfl rfl (x_move (hF.tmp 8 rfl)) ?_; clear hF; intro a hF
     refine l_at hF rfl rfl rfl (x_move (hF.tmp 39 rfl)) ?_; clear hF; intro a hF
     refine l_atg hF ((wanted_of hF rfl rfl rfl rfl).trans rfl) rfl rfl (x_faddr Tryd.underlying124 rfl ty3 (by decide) (hF.tmp 7 rfl) rfl) ?_; clear hF; intro a hF
     refine l_atg hF ((wanted_of hF rfl rfl rfl rfl).trans rfl) rfl rfl (x_load1 ty3 (hF.tmp 41 rfl) (blk_cell (hH.at 7 rfl) 0 rfl)) ?_; clear hF; intro a hF
     refine l_atg hF ((wanted_of hF rfl rfl rfl rfl).trans rfl) rfl rfl (x_faddr Tryd.underlying45 rfl ty3 (by decide) (hF.tmp 3 rfl) rfl) ?_; clear hF; intro a hF
     refine l_atg hF ((wanted_of hF rfl rfl rfl rfl).trans rfl) rfl rfl (x_load1 ty3 (hF.tmp 43 rfl) (blk_cell (hH.at 3 rfl) 1 rfl)) ?_; clear hF; intro a hF
     refine l_atg hF ((wanted_of hF rfl rfl rfl rfl).trans rfl) rfl rfl (x_eql (hF.tmp 42 rfl) (hF.tmp 44 rfl)) ?_; clear hF; intro a hF
     refine l_at hF rfl rfl rfl (x_pickT (hF.tmp 40 rfl) rfl (hF.tmp 45 rfl)) ?_; clear hF; intro a hF
     refine l_at hF rfl rfl rfl (x_assign (hF.tmp 46 rfl)) ?_; clear hF; intro a hF
     refine wpList_nil ?_
     refine hK23 _ _ ?_
     refine wp_cond_split (hF.tmp 38 rfl) (fun hc38 => ?_) (fun hc38 => ?_)
     ·have hk38_11 := hc38; try simp only [Bool.or_eq_true, Bool.and_eq_true, Bool.or_eq_false_iff, Bool.and_eq_false_iff, Bool.not_eq_true', Bool.not_eq_false', decide_eq_true_eq, decide_eq_false_iff_not, Bool.not_true, Bool.not_false] at hc38
      refine wp_seq_k fun khK24 hK24 => ?_
      refine r_start [(7, .blk b7 (.cells #[.int .i64 (getT m (strOfNums r.client)).number, .bool (getT m (strOfNums r.client)).finished, .int .i64 (getT m (strOfNums r.client)).ans.outcome, .int .i64 (getT m (strOfNums r.client)).ans.err, .slice A25 (getT m (strOfNums r.client)).ans.results.length c25] 124 (0, 0)))] (by kernel_rfl) hH fun hH => ?_
      have hS : SL [(7, .blk b7 (.cells #[.int .i64 (getT m (strOfNums r.client)).number, .bool (getT m (strOfNums r.client)).finished, .int .i64 (getT m (strOfNums r.client)).ans.outcome, .int .i64 (getT m (strOfNums r.client)).ans.err, .slice A25 (getT m (strOfNums r.client)).ans.results.length c25] 124 (0, 0)))] _ := SL.of hH (sub_cons (sub_nil _) 7 rfl)
      refine r_take 0 hF rfl rfl rfl (by kernel_rfl) (by kernel_rfl) (by kernel_rfl) (fun _ _ _ h => h) rfl hS (fun w hS => x_faddr Tryd.underlying124 rfl ty62 (by decide) (hF.tmp 7 rfl) rfl) rfl ?_; clear hF; intro a hF
      refine r_take 1 hF rfl rfl rfl (by kernel_rfl) (by kernel_rfl) (by kernel_rfl) (fun _ _ _ h => h) rfl hS (fun w hS => x_loadn (cs := #[.int .i64 (getT m (strOfNums r.client)).ans.outcome, .int .i64 (getT m (strOfNums r.client)).ans.err, .slice A25 (getT m (strOfNums r.client)).ans.results.length c25]) ty62 (hF.tmp 47 rfl) rfl (blk_sub (SL.at_ hS 7 rfl) 2 3 rfl)) rfl ?_; clear hF; intro a hF
      refine r_take 3 hF rfl rfl rfl (by kernel_rfl) (by kernel_rfl) (by kernel_rfl) (fun _ _ _ h => h) rfl hS (fun w hS => x_faddr Tryd.underlying124 rfl ty4 (by decide) (hF.tmp 7 rfl) rfl) rfl ?_; clear hF; intro a hF
      refine r_take 4 hF rfl rfl rfl (by kernel_rfl) (by kernel_rfl) (by kernel_rfl) (fun _ _ _ h => h) rfl hS (fun w hS => x_load1 ty4 (hF.tmp 50 rfl) (blk_cell (SL.at_ hS 7 rfl) 1 rfl)) rfl ?_; clear hF; intro a hF
      refine r_do 2 rfl (by kernel_rfl) rfl rfl ?_
      refine w_call hF (x_enter Tryd.func61 (by kernel_rfl) rfl (by simp only [List.map_toArray, List.map_cons, List.map_nil, hF.tmp 48 rfl] <;> rfl)) (copied_calls (y := (getT m (strOfNums r.client)).ans) _ ((hH.rd 2025 rfl)) (hs _).2) rfl rfl ?_
      rintro _ w ⟨vr49, rfl, hm_, hr_⟩; refine ⟨_, rfl, ?_⟩; clear hF; intro a hF; have hH := Hp.rowOut hH 49 hm_ hr_; obtain ⟨Ar49, cr49, rfl⟩ := (hH.row 49 rfl).form
      clear hS; have hS : SL _ _ := SL.of hH (sub_cons (sub_nil _) 7 rfl); refine ⟨hS, ?_⟩
      refine r_do 5 rfl (by kernel_rfl) rfl rfl ?_
      refine w_storeA 4 hH ty62 rfl (hF.tmp 4 rfl) (hF.tmp 49 rfl) rfl (by simp [Value.cells, Value.oneCell']) rfl ?_
      clear hH; intro w hH
      clear hS; have hS : SL _ _ := SL.of hH (sub_cons (sub_nil _) 7 rfl); refine ⟨hS, ?_⟩
      refine r_take 6 hF rfl rfl rfl (by kernel_rfl) (by kernel_rfl) (by kernel_rfl) (fun _ _ _ h => h) rfl hS (fun w hS => x_assign (hF.tmp 51 rfl)) rfl ?_; clear hF; intro a hF
      refine r_take 7 hF rfl rfl rfl (by kernel_rfl) (by kernel_rfl) (by kernel_rfl) (fun _ _ _ h => h) rfl hS (fun w hS => x_assign rfl) rfl ?_; clear hF; intro a hF
      refine r_end (by kernel_rfl) ?_; clear hS
      refine hK24 _ _ ?_
      refine wp_ret ?_
      try simp only [Exit.then, Exit.inBlock]
      obtain ⟨hA_, hF_, hE_, hM_⟩ := ask_hit hr0 hc30 (by omega)
      refine fin_ret hF (resctt hF rfl rfl rfl rfl (hH.at 4 rfl) ty62 rfl) ⟨Asn.all [(1, .blk bt (.cells #[.map (some bm)] 122 (0, 0))), (2, .map KS LV bm m okm)], _, by rw [hA_, hF_, hE_] <;> rfl, by rw [hM_]; exact ⟨_, _, rfl⟩, grew_of (hH.sub [(1, .blk bt (.cells #[.map (some bm)] 122 (0, 0))), (2, .map KS LV bm m okm)] (sub_cons (sub_cons (sub_nil _) 2 rfl) 1 rfl)) (rdin_cons (fun k h => h.elim) (rdin_cons (fun k h => .inr (.inl ⟨2, _, rfl, h⟩)) rdin_nil)), ?_, ?_⟩
      ·rw [hA_]; exact ⟨hH.row 49 rfl, fun k hk => (hH.mine 49 _ rfl k hk).resolve_left (fun h => lab_apart hH (sub_cons (sub_cons (sub_nil _) 2 rfl) 1 rfl) 49 rfl rfl hk (.inl h))⟩
      ·exact fun k hk => lab_apart hH (sub_cons (sub_cons (sub_nil _) 2 rfl) 1 rfl) 49 rfl rfl hk
     ·have hk38_12 := hc38; try simp only [Bool.or_eq_true, Bool.and_eq_true, Bool.or_eq_false_iff, Bool.and_eq_false_iff, Bool.not_eq_true', Bool.not_eq_false', decide_eq_true_eq, decide_eq_false_iff_not, Bool.not_true, Bool.not_false] at hc38
      refine wp_seq_k fun khK25 hK25 => ?_
      refine wp_region_lit ?_
      refine l_at hF rfl rfl rfl (x_move (hF.tmp 8 rfl)) ?_; clear hF; intro a hF
      refine l_at hF rfl rfl rfl (x_move (hF.tmp 53 rfl)) ?_; clear hF; intro a hF
      refine l_atg hF ((wanted_of hF rfl rfl rfl rfl).trans rfl) rfl rfl (x_faddr Tryd.underlying124 rfl ty4 (by decide) (hF.tmp 7 rfl) rfl) ?_; clear hF; intro a hF
      refine l_atg hF ((wanted_of hF rfl rfl rfl rfl).trans rfl) rfl rfl (x_load1 ty4 (hF.tmp 55 rfl) (blk_cell (hH.at 7 rfl) 1 rfl)) ?_; clear hF; intro a hF
      refine l_atg hF ((wanted_of hF rfl rfl rfl rfl).trans rfl) rfl rfl (x_not (hF.tmp 56 rfl)) ?_; clear hF; intro a hF
      refine l_at hF rfl rfl rfl (x_pickT (hF.tmp 54 rfl) rfl (hF.tmp 57 rfl)) ?_; clear hF; intro a hF
      refine l_at hF rfl rfl rfl (x_assign (hF.tmp 58 rfl)) ?_; clear hF; intro a hF
      refine wpList_nil ?_
      refine hK25 _ _ ?_
      refine wp_cond_split (hF.tmp 52 rfl) (fun hc52 => ?_) (fun hc52 => ?_)
      ·have hk52_13 := hc52; try simp only [Bool.or_eq_true, Bool.and_eq_true, Bool.or_eq_false_iff, Bool.and_eq_false_iff, Bool.not_eq_true', Bool.not_eq_false', decide_eq_true_eq, decide_eq_false_iff_not, Bool.not_true, Bool.not_false] at hc52
       refine wp_seq_k fun khK26 hK26 => ?_
       refine wp_region_lit ?_
       refine l_at hF rfl rfl rfl (x_buildS (cells := #[.int .i64 0, .int .i64 0, .slice none 0 0]) (places := #[(0, 1), (1, 1), (2, 1)]) Tryd.underlying62 ty62 (by kernel_rfl) Array.map_empty rfl) ?_; clear hF; intro a hF
       refine wpList_plain rfl fun K hK => ?_
       refine w_storeA 4 hH ty62 rfl (hF.tmp 4 rfl) (hF.tmp 59 rfl) rfl (by simp [Value.cells, Value.oneCell']) rfl ?_
       clear hH; intro w hH
       refine hK _ _ ?_; clear hK K
       refine l_at hF rfl rfl rfl (x_assign rfl) ?_; clear hF; intro a hF
       refine l_at hF rfl rfl rfl (x_assign rfl) ?_; clear hF; intro a hF
       refine wpList_nil ?_
       refine hK26 _ _ ?_
       refine wp_ret ?_
       try simp only [Exit.then, Exit.inBlock]
       obtain ⟨hA_, hF_, hE_, hM_⟩ := ask_busy hr0 hc30 (by omega) (by omega) (by first | assumption | simpa using hc52)
       refine fin_ret hF (resctt hF rfl rfl rfl rfl (hH.at 4 rfl) ty62 rfl) ⟨Asn.all [(1, .blk bt (.cells #[.map (some bm)] 122 (0, 0))), (2, .map KS LV bm m okm)], _, by rw [hA_, hF_, hE_] <;> rfl, by rw [hM_]; exact ⟨_, _, rfl⟩, grew_of (hH.sub [(1, .blk bt (.cells #[.map (some bm)] 122 (0, 0))), (2, .map KS LV bm m okm)] (sub_cons (sub_cons (sub_nil _) 2 rfl) 1 rfl)) (rdin_cons (fun k h => h.elim) (rdin_cons (fun k h => .inr (.inl ⟨2, _, rfl, h⟩)) rdin_nil)), ?_, ?_⟩
       ·rw [hA_]; exact RowOut.nil _ _ _ _
       ·exact fun k hk => by cases hk
      ·have hk52_14 := hc52; try simp only [Bool.or_eq_true, Bool.and_eq_true, Bool.or_eq_false_iff, Bool.and_eq_false_iff, Bool.not_eq_true', Bool.not_eq_false', decide_eq_true_eq, decide_eq_false_iff_not, Bool.not_true, Bool.not_false] at hc52
       refine wp_skip ?_
       refine hK20 _ _ ?_
       refine wp_seq_k fun khK27 hK27 => ?_
       refine r_start [(1, .blk bt (.cells #[.map (some bm)] 122 (0, 0))), (3, .blk b3 (.cells #[.string (strOfNums r.client), .int .i64 r.num, .slice Ar0 r.ops.length cr0] 45 (0, 0)))] (by kernel_rfl) hH fun hH => ?_
       have hS : SL [(1, .blk bt (.cells #[.map (some bm)] 122 (0, 0))), (3, .blk b3 (.cells #[.string (strOfNums r.client), .int .i64 r.num, .slice Ar0 r.ops.length cr0] 45 (0, 0)))] _ := SL.of hH (sub_cons (sub_cons (sub_nil _) 3 rfl) 1 rfl)
       refine r_take 0 hF rfl rfl rfl (by kernel_rfl) (by kernel_rfl) (by kernel_rfl) (fun _ _ _ h => h) rfl hS (fun w hS => x_move (hF.tmp 0 rfl)) rfl ?_; clear hF; intro a hF
       refine r_take 1 hF rfl rfl rfl (by kernel_rfl) (by kernel_rfl) (by kernel_rfl) (fun _ _ _ h => h) rfl hS (fun w hS => x_nil (hF.tmp 60 rfl)) rfl ?_; clear hF; intro a hF
       refine r_take 2 hF rfl rfl rfl (by kernel_rfl) (by kernel_rfl) (by kernel_rfl) (fun _ _ _ h => h) rfl hS (fun w hS => x_faddr Tryd.underlying122 rfl ty120 (by decide) (hF.tmp 61 rfl) rfl) rfl ?_; clear hF; intro a hF
       refine r_take 3 hF rfl rfl rfl (by kernel_rfl) (by kernel_rfl) (by kernel_rfl) (fun _ _ _ h => h) rfl hS (fun w hS => x_load1 ty120 (hF.tmp 62 rfl) (blk_cell (SL.at_ hS 1 rfl) 0 rfl)) rfl ?_; clear hF; intro a hF
       refine r_take 4 hF rfl rfl rfl (by kernel_rfl) (by kernel_rfl) (by kernel_rfl) (fun _ _ _ h => h) rfl hS (fun w hS => x_faddr Tryd.underlying45 rfl ty9 (by decide) (hF.tmp 3 rfl) rfl) rfl ?_; clear hF; intro a hF
       refine r_take 5 hF rfl rfl rfl (by kernel_rfl) (by kernel_rfl) (by kernel_rfl) (fun _ _ _ h => h) rfl hS (fun w hS => x_load1 ty9 (hF.tmp 64 rfl) (blk_cell (SL.at_ hS 3 rfl) 0 rfl)) rfl ?_; clear hF; intro a hF
       refine r_take 6 hF rfl rfl rfl (by kernel_rfl) (by kernel_rfl) (by kernel_rfl) (fun _ _ _ h => h) rfl hS (fun w hS => x_faddr Tryd.underlying45 rfl ty3 (by decide) (hF.tmp 3 rfl) rfl) rfl ?_; clear hF; intro a hF
       refine r_take 7 hF rfl rfl rfl (by kernel_rfl) (by kernel_rfl) (by kernel_rfl) (fun _ _ _ h => h) rfl hS (fun w hS => x_load1 ty3 (hF.tmp 66 rfl) (blk_cell (SL.at_ hS 3 rfl) 1 rfl)) rfl ?_; clear hF; intro a hF
       refine r_take 8 hF rfl rfl rfl (by kernel_rfl) (by kernel_rfl) (by kernel_rfl) (fun _ _ _ h => h) rfl hS (fun w hS => x_buildS (cells := #[.int .i64 r.num, .bool false, .int .i64 0, .int .i64 0, .slice none 0 0]) (places := #[(0, 1), (1, 1), (2, 3)]) Tryd.underlying124 ty124 (by kernel_rfl) (by simp only [List.map_toArray, List.map_cons, List.map_nil, hF.tmp 67 rfl] <;> rfl) rfl) rfl ?_; clear hF; intro a hF
       refine r_do 9 rfl (by kernel_rfl) rfl rfl ?_
       refine w_mapSet 2 (k := (strOfNums r.client)) (yv := (⟨r.num, false, ans0⟩ : LastD)) okm hH rfl Tryd.underlying120 Tryd.underlying9 (hF.tmp 63 rfl) (hF.tmp 65 rfl) (hF.tmp 68 rfl) (last_put (x := (⟨r.num, false, ans0⟩ : LastD)) (Rd.nil _ _ _)) (fun k hk => hk) (fun k hk => .inl hk) ?_
       clear hH; intro w hH
       clear hS; have hS : SL _ _ := SL.of hH (sub_cons (sub_cons (sub_nil _) 3 rfl) 1 rfl); refine ⟨hS, ?_⟩
       refine r_end (by kernel_rfl) ?_; clear hS
       refine hK27 _ _ ?_
       refine wp_seq_k fun khK28 hK28 => ?_
       refine wp_region_lit ?_
       refine l_at hF rfl rfl rfl (x_buildS (cells := #[.int .i64 0, .int .i64 0, .slice none 0 0]) (places := #[(0, 1), (1, 1), (2, 1)]) Tryd.underlying62 ty62 (by kernel_rfl) Array.map_empty rfl) ?_; clear hF; intro a hF
       refine wpList_plain rfl fun K hK => ?_
       refine w_storeA 4 hH ty62 rfl (hF.tmp 4 rfl) (hF.tmp 69 rfl) rfl (by simp [Value.cells, Value.oneCell']) rfl ?_
       clear hH; intro w hH
       refine hK _ _ ?_; clear hK K
       refine l_at hF rfl rfl rfl (x_assign rfl) ?_; clear hF; intro a hF
       refine l_at hF rfl rfl rfl (x_assign rfl) ?_; clear hF; intro a hF
       refine wpList_nil ?_
       refine hK28 _ _ ?_
       refine wp_ret ?_
       try simp only [Exit.then, Exit.inBlock]
       obtain ⟨hA_, hF_, hE_, hM_⟩ := ask_new hr0 (.inr ⟨hc30, by omega, by omega, by first | assumption | simpa using hc52⟩)
       refine fin_ret hF (resctt hF rfl rfl rfl rfl (hH.at 4 rfl) ty62 rfl) ⟨Asn.all [(1, .blk bt (.cells #[.map (some bm)] 122 (0, 0))), (2, .map KS LV bm (mput m (strOfNums r.client) (⟨r.num, false, ans0⟩ : LastD)) okm)], _, by rw [hA_, hF_, hE_] <;> rfl, by rw [hM_]; exact ⟨_, _, rfl⟩, grew_of (hH.sub [(1, .blk bt (.cells #[.map (some bm)] 122 (0, 0))), (2, .map KS LV bm (mput m (strOfNums r.client) (⟨r.num, false, ans0⟩ : LastD)) okm)] (sub_cons (sub_cons (sub_nil _) 2 rfl) 1 rfl)) (rdin_cons (fun k h => h.elim) (rdin_cons (fun k h => .inr (.inl ⟨2, _, rfl, h⟩)) rdin_nil)), ?_, ?_⟩
       ·rw [hA_]; exact RowOut.nil _ _ _ _
       ·exact fun k hk => by cases hk
   ·have hc30 := hb30; try simp only [Bool.or_eq_true, Bool.and_eq_true, Bool.or_eq_false_iff, Bool.and_eq_false_iff, Bool.not_eq_true', Bool.not_eq_false', decide_eq_true_eq, decide_eq_false_iff_not, Bool.not_true, Bool.not_false] at hc30
    refine l_offg hF ((wanted_of hF rfl rfl rfl rfl).trans (by rw [hb30]; rfl)) rfl rfl ?_; clear hF; intro a hF
    refine l_offg hF ((wanted_of hF rfl rfl rfl rfl).trans (by rw [hb30]; rfl)) rfl rfl ?_; clear hF; intro a hF
    refine l_offg hF ((wanted_of hF rfl rfl rfl rfl).trans (by rw [hb30]; rfl)) rfl rfl ?_; clear hF; intro a hF
    refine l_offg hF ((wanted_of hF rfl rfl rfl rfl).trans (by rw [hb30]; rfl)) rfl rfl ?_; clear hF; intro a hF
    refine l_offg hF ((wanted_of hF rfl rfl rfl rfl).trans (by rw [hb30]; rfl)) rfl rfl ?_; clear hF; intro a hF
    refine l_at hF rfl rfl rfl (x_pickF (hF.tmp 30 rfl) hb30 rfl) ?_; clear hF; intro a hF
    refine l_at hF rfl rfl rfl (x_assign (hF.tmp 36 rfl)) ?_; clear hF; intro a hF
    refine wpList_nil ?_
    refine hK21 _ _ ?_
    refine wp_cond_false (hF.tmp 28 rfl) ?_
    refine wp_seq_k fun khK29 hK29 => ?_
    refine wp_region_lit ?_
    rw [hc30] at hF
    refine l_at hF rfl rfl rfl (x_move (hF.tmp 8 rfl)) ?_; clear hF; intro a hF
    refine l_at hF rfl rfl rfl (x_move (hF.tmp 39 rfl)) ?_; clear hF; intro a hF
    refine l_offg hF ((wanted_of hF rfl rfl rfl rfl).trans rfl) rfl rfl ?_; clear hF; intro a hF
    refine l_offg hF ((wanted_of hF rfl rfl rfl rfl).trans rfl) rfl rfl ?_; clear hF; intro a hF
    refine l_offg hF ((wanted_of hF rfl rfl rfl rfl).trans rfl) rfl rfl ?_; clear hF; intro a hF
    refine l_offg hF ((wanted_of hF rfl rfl rfl rfl).trans rfl) rfl rfl ?_; clear hF; intro a hF
    refine l_offg hF ((wanted_of hF rfl rfl rfl rfl).trans rfl) rfl rfl ?_; clear hF; intro a hF
    refine l_at hF rfl rfl rfl (x_pickF (hF.tmp 40 rfl) rfl rfl) ?_; clear hF; intro a hF
    refine l_at hF rfl rfl rfl (x_assign (hF.tmp 46 rfl)) ?_; clear hF; intro a hF
    refine wpList_nil ?_
    refine hK29 _ _ ?_
    refine wp_cond_false (hF.tmp 38 rfl) ?_
    refine wp_seq_k fun khK30 hK30 => ?_
    refine wp_region_lit ?_
    refine l_at hF rfl rfl rfl (x_move (hF.tmp 8 rfl)) ?_; clear hF; intro a hF
    refine l_at hF rfl rfl rfl (x_move (hF.tmp 53 rfl)) ?_; clear hF; intro a hF
    refine l_offg hF ((wanted_of hF rfl rfl rfl rfl).trans rfl) rfl rfl ?_; clear hF; intro a hF
    refine l_offg hF ((wanted_of hF rfl rfl rfl rfl).trans rfl) rfl rfl ?_; clear hF; intro a hF
    refine l_offg hF ((wanted_of hF rfl rfl rfl rfl).trans rfl) rfl rfl ?_; clear hF; intro a hF
    refine l_at hF rfl rfl rfl (x_pickF (hF.tmp 54 rfl) rfl rfl) ?_; clear hF; intro a hF
    refine l_at hF rfl rfl rfl (x_assign (hF.tmp 58 rfl)) ?_; clear hF; intro a hF
    refine wpList_nil ?_
    refine hK30 _ _ ?_
    refine wp_cond_false (hF.tmp 52 rfl) ?_
    refine wp_skip ?_
    refine hK20 _ _ ?_
    refine wp_seq_k fun khK31 hK31 => ?_
    refine r_start [(1, .blk bt (.cells #[.map (some bm)] 122 (0, 0))), (3, .blk b3 (.cells #[.string (strOfNums r.client), .int .i64 r.num, .slice Ar0 r.ops.length cr0] 45 (0, 0)))] (by kernel_rfl) hH fun hH => ?_
    have hS : SL [(1, .blk bt (.cells #[.map (some bm)] 122 (0, 0))), (3, .blk b3 (.cells #[.string (strOfNums r.client), .int .i64 r.num, .slice Ar0 r.ops.length cr0] 45 (0, 0)))] _ := SL.of hH (sub_cons (sub_cons (sub_nil _) 3 rfl) 1 rfl)
    refine r_take 0 hF rfl rfl rfl (by kernel_rfl) (by kernel_rfl) (by kernel_rfl) (fun _ _ _ h => h) rfl hS (fun w hS => x_move (hF.tmp 0 rfl)) rfl ?_; clear hF; intro a hF
    refine r_take 1 hF rfl rfl rfl (by kernel_rfl) (by kernel_rfl) (by kernel_rfl) (fun _ _ _ h => h) rfl hS (fun w hS => x_nil (hF.tmp 60 rfl)) rfl ?_; clear hF; intro a hF
    refine r_take 2 hF rfl rfl rfl (by kernel_rfl) (by kernel_rfl) (by kernel_rfl) (fun _ _ _ h => h) rfl hS (fun w hS => x_faddr Tryd.underlying122 rfl ty120 (by decide) (hF.tmp 61 rfl) rfl) rfl ?_; clear hF; intro a hF
    refine r_take 3 hF rfl rfl rfl (by kernel_rfl) (by kernel_rfl) (by kernel_rfl) (fun _ _ _ h => h) rfl hS (fun w hS => x_load1 ty120 (hF.tmp 62 rfl) (blk_cell (SL.at_ hS 1 rfl) 0 rfl)) rfl ?_; clear hF; intro a hF
    refine r_take 4 hF rfl rfl rfl (by kernel_rfl) (by kernel_rfl) (by kernel_rfl) (fun _ _ _ h => h) rfl hS (fun w hS => x_faddr Tryd.underlying45 rfl ty9 (by decide) (hF.tmp 3 rfl) rfl) rfl ?_; clear hF; intro a hF
    refine r_take 5 hF rfl rfl rfl (by kernel_rfl) (by kernel_rfl) (by kernel_rfl) (fun _ _ _ h => h) rfl hS (fun w hS => x_load1 ty9 (hF.tmp 64 rfl) (blk_cell (SL.at_ hS 3 rfl) 0 rfl)) rfl ?_; clear hF; intro a hF
    refine r_take 6 hF rfl rfl rfl (by kernel_rfl) (by kernel_rfl) (by kernel_rfl) (fun _ _ _ h => h) rfl hS (fun w hS => x_faddr Tryd.underlying45 rfl ty3 (by decide) (hF.tmp 3 rfl) rfl) rfl ?_; clear hF; intro a hF
    refine r_take 7 hF rfl rfl rfl (by kernel_rfl) (by kernel_rfl) (by kernel_rfl) (fun _ _ _ h => h) rfl hS (fun w hS => x_load1 ty3 (hF.tmp 66 rfl) (blk_cell (SL.at_ hS 3 rfl) 1 rfl)) rfl ?_; clear hF; intro a hF
    refine r_take 8 hF rfl rfl rfl (by kernel_rfl) (by kernel_rfl) (by kernel_rfl) (fun _ _ _ h => h) rfl hS (fun w hS => x_buildS (cells := #[.int .i64 r.num, .bool false, .int .i64 0, .int .i64 0, .slice none 0 0]) (places := #[(0, 1), (1, 1), (2, 3)]) Tryd.underlying124 ty124 (by kernel_rfl) (by simp only [List.map_toArray, List.map_cons, List.map_nil, hF.tmp 67 rfl] <;> rfl) rfl) rfl ?_; clear hF; intro a hF
    refine r_do 9 rfl (by kernel_rfl) rfl rfl ?_
    refine w_mapSet 2 (k := (strOfNums r.client)) (yv := (⟨r.num, false, ans0⟩ : LastD)) okm hH rfl Tryd.underlying120 Tryd.underlying9 (hF.tmp 63 rfl) (hF.tmp 65 rfl) (hF.tmp 68 rfl) (last_put (x := (⟨r.num, false, ans0⟩ : LastD)) (Rd.nil _ _ _)) (fun k hk => hk) (fun k hk => .inl hk) ?_
    clear hH; intro w hH
    clear hS; have hS : SL _ _ := SL.of hH (sub_cons (sub_cons (sub_nil _) 3 rfl) 1 rfl); refine ⟨hS, ?_⟩
    refine r_end (by kernel_rfl) ?_; clear hS
    refine hK31 _ _ ?_
    refine wp_seq_k fun khK32 hK32 => ?_
    refine wp_region_lit ?_
    refine l_at hF rfl rfl rfl (x_buildS (cells := #[.int .i64 0, .int .i64 0, .slice none 0 0]) (places := #[(0, 1), (1, 1), (2, 1)]) Tryd.underlying62 ty62 (by kernel_rfl) Array.map_empty rfl) ?_; clear hF; intro a hF
    refine wpList_plain rfl fun K hK => ?_
    refine w_storeA 4 hH ty62 rfl (hF.tmp 4 rfl) (hF.tmp 69 rfl) rfl (by simp [Value.cells, Value.oneCell']) rfl ?_
    clear hH; intro w hH
    refine hK _ _ ?_; clear hK K
    refine l_at hF rfl rfl rfl (x_assign rfl) ?_; clear hF; intro a hF
    refine l_at hF rfl rfl rfl (x_assign rfl) ?_; clear hF; intro a hF
    refine wpList_nil ?_
    refine hK32 _ _ ?_
    refine wp_ret ?_
    try simp only [Exit.then, Exit.inBlock]
    obtain ⟨hA_, hF_, hE_, hM_⟩ := ask_new hr0 (.inl hc30)
    refine fin_ret hF (resctt hF rfl rfl rfl rfl (hH.at 4 rfl) ty62 rfl) ⟨Asn.all [(1, .blk bt (.cells #[.map (some bm)] 122 (0, 0))), (2, .map KS LV bm (mput m (strOfNums r.client) (⟨r.num, false, ans0⟩ : LastD)) okm)], _, by rw [hA_, hF_, hE_] <;> rfl, by rw [hM_]; exact ⟨_, _, rfl⟩, grew_of (hH.sub [(1, .blk bt (.cells #[.map (some bm)] 122 (0, 0))), (2, .map KS LV bm (mput m (strOfNums r.client) (⟨r.num, false, ans0⟩ : LastD)) okm)] (sub_cons (sub_cons (sub_nil _) 2 rfl) 1 rfl)) (rdin_cons (fun k h => h.elim) (rdin_cons (fun k h => .inr (.inl ⟨2, _, rfl, h⟩)) rdin_nil)), ?_, ?_⟩
    ·rw [hA_]; exact RowOut.nil _ _ _ _
    ·exact fun k hk => by cases hk
set_option maxRecDepth 100000 in
set_option maxHeartbeats 1000000 in
theorem finish_calls (w0 : World) {X : Asn} {bt : Nat} {m : TabM} (hX : TabA 122 bt m X) (hok : X.ok w0) (hs : TabB m) (s : ByteArray) (n : Int) {y : AnswerD} {oky0 : Nat → Prop} {Ay0 : Option Addr} {cy0 : Nat} (hry0 : Rd ResE w0 oky0 Ay0 y.results cy0) (hsy : AnsB y ∧ y.results.length ≤ 40) (hiny0 : ∀ k, oky0 k → k < w0.heap.size) (hapy0 : ∀ k, oky0 k → ¬ X.own k) : Calls Tryd.prog 30 #[.pointer (some ⟨bt, 0, none⟩), .string s, .int .i64 n, .agg #[.int .i64 y.outcome, .int .i64 y.err, .slice Ay0 y.results.length cy0]] w0 fun e w' => ∃ X', e = .returned (.int .i64 (finE m s n)) ∧ TabA 122 bt (finM m s n y) X' ∧ Grew (fun _ => False) (fun _ => False) X w0 w' X' := by
 obtain ⟨bm, okm, rfl⟩ := hX
 refine calls_of_wp Tryd.func30 rfl ?_
 have hF := Fr.enter #[.pointer (some ⟨bt, 0, none⟩), .string s, .int .i64 n, .agg #[.int .i64 y.outcome, .int .i64 y.err, .slice Ay0 y.results.length cy0]] 43 (slotsOf [.pointer (some ⟨bt, 0, none⟩), .string s, .int .i64 n, .agg #[.int .i64 y.outcome, .int .i64 y.err, .slice Ay0 y.results.length cy0]] 0) (Nat.le_of_ble_eq_true rfl) (fun i v h => by have h2 := (get_slotsOf _ 0 i v h).2; simpa only [List.getElem?_toArray, Nat.sub_zero] using h2)
 rw [Tryd.ntmps30]
 revert hF; generalize (⟨(#[.pointer (some ⟨bt, 0, none⟩), .string s, .int .i64 n, .agg #[.int .i64 y.outcome, .int .i64 y.err, .slice Ay0 y.results.length cy0]] : Array Value) ++ Array.replicate (43 - (#[.pointer (some ⟨bt, 0, none⟩), .string s, .int .i64 n, .agg #[.int .i64 y.outcome, .int .i64 y.err, .slice Ay0 y.results.length cy0]] : Array Value).size) undef, []⟩ : Act) = a; intro hF
 have hH := Hp.ofAll hok.holds
 have hH := hH.readable 910 hry0 hiny0 (fun j Y hY k hk hk2 => hapy0 k hk2 ⟨j, Y, hY, hk⟩)
 have hley0 := hry0.le; unfold maxLen at hley0
 refine wp_seq_k fun khK1 hK1 => ?_
 refine wp_region_lit ?_
 refine wpList_plain rfl fun K hK => ?_
 refine w_box 7 hF hH rfl (hF.tmp 3 rfl) ?_
 clear hF hH; intro a w b7 hF hH
 refine hK _ _ ?_; clear hK K
 refine l_at hF rfl rfl rfl (x_assign rfl) ?_; clear hF; intro a hF
 refine wpList_nil ?_
 refine hK1 _ _ ?_
 refine wp_seq_k fun khK2 hK2 => ?_
 refine wp_seq_k fun khK3 hK3 => ?_
 refine wp_region_lit ?_
 refine l_at hF rfl rfl rfl (x_move (hF.tmp 0 rfl)) ?_; clear hF; intro a hF
 refine l_at hF rfl rfl rfl (x_ptrnil Tryd.underlying58 (hF.tmp 11 rfl) rfl) ?_; clear hF; intro a hF
 refine wpList_nil ?_
 refine hK3 _ _ ?_
 refine wp_cond_false (hF.tmp 12 rfl) ?_
 refine wp_skip ?_
 refine hK2 _ _ ?_
 refine wp_seq_k fun khK4 hK4 => ?_
 refine wp_region_lit ?_
 refine l_at hF rfl rfl rfl (x_move (hF.tmp 0 rfl)) ?_; clear hF; intro a hF
 refine l_at hF rfl rfl rfl (x_nil (hF.tmp 14 rfl)) ?_; clear hF; intro a hF
 refine l_at hF rfl rfl rfl (x_faddr Tryd.underlying122 rfl ty120 (by decide) (hF.tmp 15 rfl) rfl) ?_; clear hF; intro a hF
 refine l_at hF rfl rfl rfl (x_load1 ty120 (hF.tmp 16 rfl) (blk_cell (hH.at 1 rfl) 0 rfl)) ?_; clear hF; intro a hF
 refine l_at hF rfl rfl rfl (x_move (hF.tmp 1 rfl)) ?_; clear hF; intro a hF
 obtain ⟨vm19, hvm19, hlm19⟩ := (hH.map 2 rfl).look (P := Tryd.prog) Tryd.underlying120 Tryd.underlying9 ((ty124).zero _) last_zero s
 replace hvm19 : LV.R _ _ (getT m s) _ := hvm19
 obtain ⟨A19, c19, rfl, hr19⟩ := last_open hvm19
 have hH := hH.subrd 2 rfl 2019 hr19 (fun _ h => h)
 refine l_at hF rfl rfl rfl (x_lookup hlm19 (hF.tmp 17 rfl) (hF.tmp 18 rfl)) ?_; clear hF; intro a hF
 refine l_at hF rfl rfl rfl (x_move (hF.tmp 19 rfl)) ?_; clear hF; intro a hF
 refine l_at hF rfl rfl rfl (x_extract (hF.tmp 13 rfl) rfl) ?_; clear hF; intro a hF
 refine l_at hF rfl rfl rfl (x_extract (hF.tmp 13 rfl) rfl) ?_; clear hF; intro a hF
 refine wpList_plain rfl fun K hK => ?_
 refine w_alloc 9 hF hH rfl ty124 ?_
 clear hF hH; intro a w b9 hF hH
 refine hK _ _ ?_; clear hK K
 refine wpList_plain rfl fun K hK => ?_
 refine w_storeA 9 hH ty124 rfl (hF.tmp 9 rfl) (hF.tmp 20 rfl) rfl (by simp [Value.cells, Value.oneCell']) rfl ?_
 clear hH; intro w hH
 refine hK _ _ ?_; clear hK K
 refine l_at hF rfl rfl rfl (x_assign (hF.tmp 21 rfl)) ?_; clear hF; intro a hF
 refine wpList_nil ?_
 refine hK4 _ _ ?_
 refine wp_seq_k fun khK5 hK5 => ?_
 refine wp_seq_k fun khK6 hK6 => ?_
 refine wp_region_lit ?_
 refine l_at hF rfl rfl rfl (x_move (hF.tmp 10 rfl)) ?_; clear hF; intro a hF
 refine l_at hF rfl rfl rfl (x_not (hF.tmp 22 rfl)) ?_; clear hF; intro a hF
 refine l_at hF rfl rfl rfl (x_move (hF.tmp 23 rfl)) ?_; clear hF; intro a hF
 refine split_bool hF 24 rfl (fun hb24 => ?_) (fun hb24 => ?_)
 ·have hc24 := hb24; try simp only [Bool.or_eq_true, Bool.and_eq_true, Bool.or_eq_false_iff, Bool.and_eq_false_iff, Bool.not_eq_true', Bool.not_eq_false', decide_eq_true_eq, decide_eq_false_iff_not, Bool.not_true, Bool.not_false] at hc24
  refine l_offg hF ((wanted_of hF rfl rfl rfl rfl).trans (by rw [hb24]; rfl)) rfl rfl ?_; clear hF; intro a hF
  refine l_offg hF ((wanted_of hF rfl rfl rfl rfl).trans (by rw [hb24]; rfl)) rfl rfl ?_; clear hF; intro a hF
  refine l_offg hF ((wanted_of hF rfl rfl rfl rfl).trans (by rw [hb24]; rfl)) rfl rfl ?_; clear hF; intro a hF
  refine l_offg hF ((wanted_of hF rfl rfl rfl rfl).trans (by rw [hb24]; rfl)) rfl rfl ?_; clear hF; intro a hF
  refine l_at hF rfl rfl rfl (x_pickT (hF.tmp 24 rfl) hb24 rfl) ?_; clear hF; intro a hF
  refine l_at hF rfl rfl rfl (x_move (hF.tmp 29 rfl)) ?_; clear hF; intro a hF
  refine l_offg hF ((wanted_of hF rfl rfl rfl rfl).trans rfl) rfl rfl ?_; clear hF; intro a hF
  refine l_offg hF ((wanted_of hF rfl rfl rfl rfl).trans rfl) rfl rfl ?_; clear hF; intro a hF
  refine l_at hF rfl rfl rfl (x_pickT (hF.tmp 30 rfl) rfl rfl) ?_; clear hF; intro a hF
  refine wpList_nil ?_
  refine hK6 _ _ ?_
  refine wp_cond_true (hF.tmp 33 rfl) ?_
  refine wp_seq_k fun khK7 hK7 => ?_
  refine wp_region_lit ?_
  refine l_at hF rfl rfl rfl (x_assign rfl) ?_; clear hF; intro a hF
  refine wpList_nil ?_
  refine hK7 _ _ ?_
  refine wp_ret ?_
  try simp only [Exit.then, Exit.inBlock]
  obtain ⟨hE_, hM_⟩ := fin_no (m := m) (k := s) (n := n) (y := y) (.inl (by simpa using hc24))
  exact fin_ret hF (res1 hF rfl rfl) ⟨Asn.all [(1, .blk bt (.cells #[.map (some bm)] 122 (0, 0))), (2, .map KS LV bm m okm)], by rw [hE_] <;> rfl, by rw [hM_]; exact ⟨_, _, rfl⟩, grew_of (hH.sub [(1, .blk bt (.cells #[.map (some bm)] 122 (0, 0))), (2, .map KS LV bm m okm)] (sub_cons (sub_cons (sub_nil _) 2 rfl) 1 rfl)) (rdin_cons (fun k h => h.elim) (rdin_cons (fun k h => .inr (.inl ⟨2, _, rfl, h⟩)) rdin_nil))⟩
 ·have hc24 := hb24; try simp only [Bool.or_eq_true, Bool.and_eq_true, Bool.or_eq_false_iff, Bool.and_eq_false_iff, Bool.not_eq_true', Bool.not_eq_false', decide_eq_true_eq, decide_eq_false_iff_not, Bool.not_true, Bool.not_false] at hc24
  refine l_atg hF ((wanted_of hF rfl rfl rfl rfl).trans (by rw [hb24]; rfl)) rfl rfl (x_faddr Tryd.underlying124 rfl ty3 (by decide) (hF.tmp 9 rfl) rfl) ?_; clear hF; intro a hF
  refine l_atg hF ((wanted_of hF rfl rfl rfl rfl).trans (by rw [hb24]; rfl)) rfl rfl (x_load1 ty3 (hF.tmp 25 rfl) (blk_cell (hH.at 9 rfl) 0 rfl)) ?_; clear hF; intro a hF
  refine l_atg hF ((wanted_of hF rfl rfl rfl rfl).trans (by rw [hb24]; rfl)) rfl rfl (x_move (hF.tmp 2 rfl)) ?_; clear hF; intro a hF
  refine l_atg hF ((wanted_of hF rfl rfl rfl rfl).trans (by rw [hb24]; rfl)) rfl rfl (x_neq (hF.tmp 26 rfl) (hF.tmp 27 rfl)) ?_; clear hF; intro a hF
  refine l_at hF rfl rfl rfl (x_pickF (hF.tmp 24 rfl) hb24 (hF.tmp 28 rfl)) ?_; clear hF; intro a hF
  refine l_at hF rfl rfl rfl (x_move (hF.tmp 29 rfl)) ?_; clear hF; intro a hF
  refine split_bool hF 30 rfl (fun hb30 => ?_) (fun hb30 => ?_)
  ·have hc30 := hb30; try simp only [Bool.or_eq_true, Bool.and_eq_true, Bool.or_eq_false_iff, Bool.and_eq_false_iff, Bool.not_eq_true', Bool.not_eq_false', decide_eq_true_eq, decide_eq_false_iff_not, Bool.not_true, Bool.not_false] at hc30
   refine l_offg hF ((wanted_of hF rfl rfl rfl rfl).trans (by rw [hb30]; rfl)) rfl rfl ?_; clear hF; intro a hF
   refine l_offg hF ((wanted_of hF rfl rfl rfl rfl).trans (by rw [hb30]; rfl)) rfl rfl ?_; clear hF; intro a hF
   refine l_at hF rfl rfl rfl (x_pickT (hF.tmp 30 rfl) hb30 rfl) ?_; clear hF; intro a hF
   refine wpList_nil ?_
   refine hK6 _ _ ?_
   refine wp_cond_true (hF.tmp 33 rfl) ?_
   refine wp_seq_k fun khK8 hK8 => ?_
   refine wp_region_lit ?_
   refine l_at hF rfl rfl rfl (x_assign rfl) ?_; clear hF; intro a hF
   refine wpList_nil ?_
   refine hK8 _ _ ?_
   refine wp_ret ?_
   try simp only [Exit.then, Exit.inBlock]
   obtain ⟨hE_, hM_⟩ := fin_no (m := m) (k := s) (n := n) (y := y) (.inr (.inl (by first | assumption | simpa using hc30)))
   exact fin_ret hF (res1 hF rfl rfl) ⟨Asn.all [(1, .blk bt (.cells #[.map (some bm)] 122 (0, 0))), (2, .map KS LV bm m okm)], by rw [hE_] <;> rfl, by rw [hM_]; exact ⟨_, _, rfl⟩, grew_of (hH.sub [(1, .blk bt (.cells #[.map (some bm)] 122 (0, 0))), (2, .map KS LV bm m okm)] (sub_cons (sub_cons (sub_nil _) 2 rfl) 1 rfl)) (rdin_cons (fun k h => h.elim) (rdin_cons (fun k h => .inr (.inl ⟨2, _, rfl, h⟩)) rdin_nil))⟩
  ·have hc30 := hb30; try simp only [Bool.or_eq_true, Bool.and_eq_true, Bool.or_eq_false_iff, Bool.and_eq_false_iff, Bool.not_eq_true', Bool.not_eq_false', decide_eq_true_eq, decide_eq_false_iff_not, Bool.not_true, Bool.not_false] at hc30
   refine l_atg hF ((wanted_of hF rfl rfl rfl rfl).trans (by rw [hb30]; rfl)) rfl rfl (x_faddr Tryd.underlying124 rfl ty4 (by decide) (hF.tmp 9 rfl) rfl) ?_; clear hF; intro a hF
   refine l_atg hF ((wanted_of hF rfl rfl rfl rfl).trans (by rw [hb30]; rfl)) rfl rfl (x_load1 ty4 (hF.tmp 31 rfl) (blk_cell (hH.at 9 rfl) 1 rfl)) ?_; clear hF; intro a hF
   refine l_at hF rfl rfl rfl (x_pickF (hF.tmp 30 rfl) hb30 (hF.tmp 32 rfl)) ?_; clear hF; intro a hF
   refine wpList_nil ?_
   refine hK6 _ _ ?_
   refine wp_cond_split (hF.tmp 33 rfl) (fun hc33 => ?_) (fun hc33 => ?_)
   ·have hk33_1 := hc33; try simp only [Bool.or_eq_true, Bool.and_eq_true, Bool.or_eq_false_iff, Bool.and_eq_false_iff, Bool.not_eq_true', Bool.not_eq_false', decide_eq_true_eq, decide_eq_false_iff_not, Bool.not_true, Bool.not_false] at hc33
    refine wp_seq_k fun khK9 hK9 => ?_
    refine wp_region_lit ?_
    refine l_at hF rfl rfl rfl (x_assign rfl) ?_; clear hF; intro a hF
    refine wpList_nil ?_
    refine hK9 _ _ ?_
    refine wp_ret ?_
    try simp only [Exit.then, Exit.inBlock]
    obtain ⟨hE_, hM_⟩ := fin_no (m := m) (k := s) (n := n) (y := y) (.inr (.inr (by first | assumption | simpa using hc33)))
    exact fin_ret hF (res1 hF rfl rfl) ⟨Asn.all [(1, .blk bt (.cells #[.map (some bm)] 122 (0, 0))), (2, .map KS LV bm m okm)], by rw [hE_] <;> rfl, by rw [hM_]; exact ⟨_, _, rfl⟩, grew_of (hH.sub [(1, .blk bt (.cells #[.map (some bm)] 122 (0, 0))), (2, .map KS LV bm m okm)] (sub_cons (sub_cons (sub_nil _) 2 rfl) 1 rfl)) (rdin_cons (fun k h => h.elim) (rdin_cons (fun k h => .inr (.inl ⟨2, _, rfl, h⟩)) rdin_nil))⟩
   ·have hk33_2 := hc33; try simp only [Bool.or_eq_true, Bool.and_eq_true, Bool.or_eq_false_iff, Bool.and_eq_false_iff, Bool.not_eq_true', Bool.not_eq_false', decide_eq_true_eq, decide_eq_false_iff_not, Bool.not_true, Bool.not_false] at hc33
    refine wp_skip ?_
    refine hK5 _ _ ?_
    refine wp_seq_k fun khK10 hK10 => ?_
    refine r_start [(1, .blk bt (.cells #[.map (some bm)] 122 (0, 0))), (7, .blk b7 (.cells #[.int .i64 y.outcome, .int .i64 y.err, .slice Ay0 y.results.length cy0] 62 (0, 0)))] (by kernel_rfl) hH fun hH => ?_
    have hS : SL [(1, .blk bt (.cells #[.map (some bm)] 122 (0, 0))), (7, .blk b7 (.cells #[.int .i64 y.outcome, .int .i64 y.err, .slice Ay0 y.results.length cy0] 62 (0, 0)))] _ := SL.of hH (sub_cons (sub_cons (sub_nil _) 7 rfl) 1 rfl)
    refine r_take 0 hF rfl rfl rfl (by kernel_rfl) (by kernel_rfl) (by kernel_rfl) (fun _ _ _ h => h) rfl hS (fun w hS => x_move (hF.tmp 0 rfl)) rfl ?_; clear hF; intro a hF
    refine r_take 1 hF rfl rfl rfl (by kernel_rfl) (by kernel_rfl) (by kernel_rfl) (fun _ _ _ h => h) rfl hS (fun w hS => x_nil (hF.tmp 34 rfl)) rfl ?_; clear hF; intro a hF
    refine r_take 2 hF rfl rfl rfl (by kernel_rfl) (by kernel_rfl) (by kernel_rfl) (fun _ _ _ h => h) rfl hS (fun w hS => x_faddr Tryd.underlying122 rfl ty120 (by decide) (hF.tmp 35 rfl) rfl) rfl ?_; clear hF; intro a hF
    refine r_take 3 hF rfl rfl rfl (by kernel_rfl) (by kernel_rfl) (by kernel_rfl) (fun _ _ _ h => h) rfl hS (fun w hS => x_load1 ty120 (hF.tmp 36 rfl) (blk_cell (SL.at_ hS 1 rfl) 0 rfl)) rfl ?_; clear hF; intro a hF
    refine r_take 4 hF rfl rfl rfl (by kernel_rfl) (by kernel_rfl) (by kernel_rfl) (fun _ _ _ h => h) rfl hS (fun w hS => x_move (hF.tmp 1 rfl)) rfl ?_; clear hF; intro a hF
    refine r_take 5 hF rfl rfl rfl (by kernel_rfl) (by kernel_rfl) (by kernel_rfl) (fun _ _ _ h => h) rfl hS (fun w hS => x_move (hF.tmp 2 rfl)) rfl ?_; clear hF; intro a hF
    refine r_take 6 hF rfl rfl rfl (by kernel_rfl) (by kernel_rfl) (by kernel_rfl) (fun _ _ _ h => h) rfl hS (fun w hS => x_loadn ty62 (hF.tmp 7 rfl) rfl (blk_whole (SL.at_ hS 7 rfl))) rfl ?_; clear hF; intro a hF
    refine r_do 7 rfl (by kernel_rfl) rfl rfl ?_
    refine w_call hF (x_enter Tryd.func61 (by kernel_rfl) rfl (by simp only [List.map_toArray, List.map_cons, List.map_nil, hF.tmp 40 rfl] <;> rfl)) (copied_calls (y := y) _ ((hH.rd 910 rfl)) hsy.2) rfl rfl ?_
    rintro _ w ⟨vr41, rfl, hm_, hr_⟩; refine ⟨_, rfl, ?_⟩; clear hF; intro a hF; have hsz_ := hH.mods.size; have hH := Hp.rowOut hH 41 hm_ hr_; obtain ⟨Ar41, cr41, rfl⟩ := (hH.row 41 rfl).form; have hfr41 : ∀ kb, (Value.slice Ar41 y.results.length cr41).ownBlock = some kb → w0.heap.size ≤ kb := fun kb h => Nat.le_trans hsz_ (hr_.2 kb h)
    clear hS; have hS : SL _ _ := SL.of hH (sub_cons (sub_cons (sub_nil _) 7 rfl) 1 rfl); refine ⟨hS, ?_⟩
    have hH := hH.freeze 41 rfl (fun kb => (Value.slice Ar41 y.results.length cr41).ownBlock = some kb) (fun kb => ⟨fun h => .inr h, fun h => h.resolve_left id⟩)
    refine r_take 8 hF rfl rfl rfl (by kernel_rfl) (by kernel_rfl) (by kernel_rfl) (fun _ _ _ h => h) rfl hS (fun w hS => x_buildS (cells := #[.int .i64 n, .bool true, .int .i64 y.outcome, .int .i64 y.err, .slice Ar41 y.results.length cr41]) (places := #[(0, 1), (1, 1), (2, 3)]) Tryd.underlying124 ty124 (by kernel_rfl) (by simp only [List.map_toArray, List.map_cons, List.map_nil, hF.tmp 39 rfl, hF.tmp 41 rfl] <;> rfl) rfl) rfl ?_; clear hF; intro a hF
    refine r_do 9 rfl (by kernel_rfl) rfl rfl ?_
    refine w_mapSet 2 (k := s) (yv := (⟨n, true, y⟩ : LastD)) (fun k => okm k ∨ (fun kb => (Value.slice Ar41 y.results.length cr41).ownBlock = some kb) k) hH rfl Tryd.underlying120 Tryd.underlying9 (hF.tmp 37 rfl) (hF.tmp 38 rfl) (hF.tmp 42 rfl) (last_put (x := (⟨n, true, y⟩ : LastD)) (((hH.rd 41 rfl)).move (fun _ _ _ => rfl) (fun k hk _ => ⟨.inr hk, fun e => hH.sep 2 41 _ _ (by decide) rfl rfl k e (.inr hk)⟩))) (fun k hk => .inl hk) (fun k hk => hk.elim .inl (fun h => .inr ⟨41, _, rfl, h⟩)) ?_
    clear hH; intro w hH
    clear hS; have hS : SL _ _ := SL.of hH (sub_cons (sub_cons (sub_nil _) 7 rfl) 1 rfl); refine ⟨hS, ?_⟩
    refine r_end (by kernel_rfl) ?_; clear hS
    refine hK10 _ _ ?_
    refine wp_seq_k fun khK11 hK11 => ?_
    refine wp_region_lit ?_
    refine l_at hF rfl rfl rfl (x_assign rfl) ?_; clear hF; intro a hF
    refine wpList_nil ?_
    refine hK11 _ _ ?_
    refine wp_ret ?_
    try simp only [Exit.then, Exit.inBlock]
    obtain ⟨hE_, hM_⟩ := fin_yes (m := m) (k := s) (n := n) (y := y) (by simpa using hc24) (by first | assumption | simpa using hc30) (by first | assumption | simpa using hc33)
    exact fin_ret hF (res1 hF rfl rfl) ⟨Asn.all [(1, .blk bt (.cells #[.map (some bm)] 122 (0, 0))), (2, .map KS LV bm (mput m s (⟨n, true, y⟩ : LastD)) (fun k => okm k ∨ (fun kb => (Value.slice Ar41 y.results.length cr41).ownBlock = some kb) k))], by rw [hE_] <;> rfl, by rw [hM_]; exact ⟨_, _, rfl⟩, grew_of (hH.sub [(1, .blk bt (.cells #[.map (some bm)] 122 (0, 0))), (2, .map KS LV bm (mput m s (⟨n, true, y⟩ : LastD)) (fun k => okm k ∨ (fun kb => (Value.slice Ar41 y.results.length cr41).ownBlock = some kb) k))] (sub_cons (sub_cons (sub_nil _) 2 rfl) 1 rfl)) (rdin_cons (fun k h => h.elim) (rdin_cons (fun k h => by rcases h.1 with h1 | h1; exact .inr (.inl ⟨2, _, rfl, h1, h.2⟩); exact .inr (.inr (.inr (hfr41 k h1)))) rdin_nil))⟩
end Go.Proofs.YtiiklnghnifmjaaDoor.Act
