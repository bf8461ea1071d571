/- A change's bytes decoded, walked. -/
import Derived.Test.YtiiklnghnifmjaaDoorActEZs
import Derived.Test.YtiiklnghnifmjaaDoorChgAZs
import Derived.Test.YtiiklnghnifmjaaDoorDecDZs
set_option linter.unusedVariables false
set_option linter.unusedSimpArgs false
namespace Go.Proofs.YtiiklnghnifmjaaDoor.Act
open Go.RowKit Go.Proofs.YtiiklnghnifmjaaDoor.Sx Go.Proofs.YtiiklnghnifmjaaDoor.Cod Go.Proofs.YtiiklnghnifmjaaDoor.Num
theorem ty4 : TyI Tryd.prog 4 (.bool false) 1 1 false := ⟨by kernel_rfl, _, Tryd.underlying4, rfl⟩
set_option maxRecDepth 100000 in
set_option maxHeartbeats 1000000 in
theorem bequal_calls (w0 : World) {ok1 : Nat → Prop} {A1 : Option Addr} {xs1 : List Int} {c1 : Nat} (hr1 : Rd (.int .u8) w0 ok1 A1 xs1 c1) {ok2 : Nat → Prop} {A2 : Option Addr} {xs2 : List Int} {c2 : Nat} (hr2 : Rd (.int .u8) w0 ok2 A2 xs2 c2) (hb1 : Byte xs1) (hb2 : Byte xs2) : Calls Tryd.prog 68 #[.slice A1 xs1.length c1, .slice A2 xs2.length c2] w0 fun e w' => e = .returned (.bool (decide (xs1 = xs2))) ∧ Mods (fun _ => False) w0 w' := by
 refine calls_of_wp Tryd.func68 rfl ?_
 have hF := Fr.enter #[.slice A1 xs1.length c1, .slice A2 xs2.length c2] 10 (slotsOf [.slice A1 xs1.length c1, .slice A2 xs2.length c2] 0) (Nat.le_of_ble_eq_true rfl) (fun i v h => by have h2 := (get_slotsOf _ 0 i v h).2; simpa only [List.getElem?_toArray, Nat.sub_zero] using h2)
 have hH := Hp.nil (fun _ => False) w0
 rw [Tryd.ntmps68]
 revert hF; generalize (⟨(#[.slice A1 xs1.length c1, .slice A2 xs2.length c2] : Array Value) ++ Array.replicate (10 - (#[.slice A1 xs1.length c1, .slice A2 xs2.length c2] : Array Value).size) undef, []⟩ : Act) = a; intro hF
 have hH := hH.arg 901 hr1.all (fun _ h => ⟨h, fun h => h⟩)
 have hle901 := hr1.le; unfold maxLen at hle901
 have hH := hH.arg 902 hr2.all (fun _ h => ⟨h, fun h => h⟩)
 have hle902 := hr2.le; unfold maxLen at hle902
 refine wp_seq_k fun khK1 hK1 => ?_
 refine wp_region_lit ?_
 refine l_at hF rfl rfl rfl (x_assign rfl) ?_; clear hF; intro a hF
 refine wpList_nil ?_
 refine hK1 _ _ ?_
 refine wp_seq_k fun khK2 hK2 => ?_
 refine wp_region_lit ?_
 refine l_at hF rfl rfl rfl (x_move (hF.tmp 0 rfl)) ?_; clear hF; intro a hF
 refine l_at hF rfl rfl rfl (x_b2s Tryd.underlying28 Tryd.underlying5 Tryd.underlying9 ((hH.rd 901 rfl)) (hF.tmp 5 rfl)) ?_; clear hF; intro a hF
 refine l_at hF rfl rfl rfl (x_move (hF.tmp 1 rfl)) ?_; clear hF; intro a hF
 refine l_at hF rfl rfl rfl (x_b2s Tryd.underlying28 Tryd.underlying5 Tryd.underlying9 ((hH.rd 902 rfl)) (hF.tmp 7 rfl)) ?_; clear hF; intro a hF
 refine l_at hF rfl rfl rfl (x_eqn (xs := xs1) (ys := xs2) (hF.tmp 6 rfl) (hF.tmp 8 rfl) hb1 hb2) ?_; clear hF; intro a hF
 refine l_at hF rfl rfl rfl (x_assign (hF.tmp 9 rfl)) ?_; clear hF; intro a hF
 refine wpList_nil ?_
 refine hK2 _ _ ?_
 refine wp_ret ?_
 try simp only [Exit.then, Exit.inBlock]
 exact fin_ret hF (res1 hF rfl rfl) ⟨rfl, hH.mods⟩
theorem dfind_calls (w0 : World) (tag : Int) {ok : Nat → Prop} {A : Option Addr} {xs : List Fld} {c : Nat} (hr : Rd FE w0 ok A xs c) (hsh : short xs = true) : Calls Tryd.prog 65 #[.slice A xs.length c, .int .i64 tag] w0 fun e w' => ∃ v, e = .returned (.tuple #[v, .bool (findI xs tag).isSome]) ∧ Mods (fun _ => False) w0 w' ∧ RowOut (.int .u8) 5 w0 w' v (fnd xs tag) := find_calls w0 tag hr hsh
set_option maxRecDepth 100000 in
set_option maxHeartbeats 1000000 in
theorem dtext_calls (w0 : World) {ok : Nat → Prop} {A : Option Addr} {xs : List Fld} {c : Nat} (hr : Rd FE w0 ok A xs c) {bl : Nat} (hbl : w0.heap[bl]? = some (.cells #[.slice A xs.length c] 100 (0, 0))) (hsh : short xs = true) (tag : Int) : Calls Tryd.prog 94 #[.int .i64 tag, .pointer (some ⟨bl, 0, none⟩)] w0 fun e w' => e = .returned (.string (strOfNums (fnd xs tag))) ∧ Mods (fun _ => False) w0 w' := by
 refine calls_of_wp Tryd.func94 rfl ?_
 have hF := Fr.enter #[.int .i64 tag, .pointer (some ⟨bl, 0, none⟩)] 14 (slotsOf [.int .i64 tag, .pointer (some ⟨bl, 0, none⟩)] 0) (Nat.le_of_ble_eq_true rfl) (fun i v h => by have h2 := (get_slotsOf _ 0 i v h).2; simpa only [List.getElem?_toArray, Nat.sub_zero] using h2)
 have hH := Hp.nil (fun _ => False) w0
 rw [Tryd.ntmps94]
 revert hF; generalize (⟨(#[.int .i64 tag, .pointer (some ⟨bl, 0, none⟩)] : Array Value) ++ Array.replicate (14 - (#[.int .i64 tag, .pointer (some ⟨bl, 0, none⟩)] : Array Value).size) undef, []⟩ : Act) = a; intro hF
 have hH := hH.arg 901 hr.all (fun _ h => ⟨h, fun h => h⟩)
 have hle901 := hr.le; unfold maxLen at hle901
 have hH := hH.seen 1 ((Asn.blk bl (.cells #[.slice A xs.length c] 100 (0, 0))).ro) (fun _ h => h) hbl (fun kb hk => by rcases hk with hk | hk; (rw [show kb = bl from hk]; exact (Array.getElem?_eq_some_iff.1 hbl).1); exact hk.elim) (fun i A' hA kb hk _ => by rcases get_one hA with ⟨_, rfl⟩ | ⟨_, h⟩; exact hk; simp [Sx.get] at h)
 refine wp_seq_k fun khK1 hK1 => ?_
 refine wp_region_lit ?_
 refine l_at hF rfl rfl rfl (x_assign (show _ = Value.string (strOfNums ([] : List Int)) by kernel_rfl)) ?_; clear hF; intro a hF
 refine wpList_nil ?_
 refine hK1 _ _ ?_
 refine wp_seq_k fun khK2 hK2 => ?_
 refine wp_region_lit ?_
 refine l_at hF rfl rfl rfl (x_load1 ty100 (hF.tmp 1 rfl) (blk_cell (hH.atro 1 rfl) 0 rfl)) ?_; clear hF; intro a hF
 refine l_at hF rfl rfl rfl (x_move (hF.tmp 0 rfl)) ?_; clear hF; intro a hF
 refine wpList_plain rfl fun K hK => ?_
 refine w_call hF (x_enter Tryd.func65 (by kernel_rfl) rfl (by simp only [List.map_toArray, List.map_cons, List.map_nil, hF.tmp 7 rfl, hF.tmp 8 rfl] <;> rfl)) (dfind_calls _ tag ((hH.rd 901 rfl)) hsh) rfl rfl ?_
 rintro _ w ⟨vr6, rfl, hm_, hr_⟩; refine ⟨_, rfl, ?_⟩; clear hF; intro a hF; have hH := Hp.rowOut hH 6 hm_ hr_; obtain ⟨Ar6, cr6, rfl⟩ := (hH.row 6 rfl).form
 refine hK _ _ ?_; clear hK K
 refine l_at hF rfl rfl rfl (x_move (hF.tmp 9 rfl)) ?_; clear hF; intro a hF
 refine l_at hF rfl rfl rfl (x_extract (hF.tmp 6 rfl) rfl) ?_; clear hF; intro a hF
 refine l_at hF rfl rfl rfl (x_extract (hF.tmp 6 rfl) rfl) ?_; clear hF; intro a hF
 refine l_at hF rfl rfl rfl (x_assign (hF.tmp 10 rfl)) ?_; clear hF; intro a hF
 refine l_at hF rfl rfl rfl (x_assign (hF.tmp 11 rfl)) ?_; clear hF; intro a hF
 refine wpList_nil ?_
 refine hK2 _ _ ?_
 refine wp_seq_k fun khK3 hK3 => ?_
 refine wp_region_lit ?_
 refine l_at hF rfl rfl rfl (x_move (hF.tmp 4 rfl)) ?_; clear hF; intro a hF
 refine l_at hF rfl rfl rfl (x_b2s Tryd.underlying28 Tryd.underlying5 Tryd.underlying9 (Row.rd (ok' := fun k_ => (fun _ => False) k_ ∨ (.slice Ar6 (fnd xs tag).length cr6 : Value).ownBlock = some k_) (hH.row 6 rfl) (fun _ hk_ _ => .inl hk_) (fun _ hk_ => .inr hk_)) (hF.tmp 12 rfl)) ?_; clear hF; intro a hF
 refine l_at hF rfl rfl rfl (x_assign (hF.tmp 13 rfl)) ?_; clear hF; intro a hF
 refine wpList_nil ?_
 refine hK3 _ _ ?_
 refine wp_ret ?_
 try simp only [Exit.then, Exit.inBlock]
 exact fin_ret hF (res1 hF rfl rfl) ⟨rfl, hH.mods⟩
set_option maxRecDepth 100000 in
set_option maxHeartbeats 1000000 in
theorem number_calls2 (w0 : World) {ok : Nat → Prop} {A : Option Addr} {xs : List Fld} {c : Nat} (hr : Rd FE w0 ok A xs c) {bl : Nat} (hbl : w0.heap[bl]? = some (.cells #[.slice A xs.length c] 100 (0, 0))) {bo : Nat} {q : Bool} (hbo : w0.heap[bo]? = some (.cells #[.bool q] 4 (0, 0))) (hne : bl ≠ bo) (hok : ∀ k, ok k → k < w0.heap.size) (hne2 : ∀ k, ok k → ¬ k = bo) (hsh : short xs = true) (hbf : ∀ f ∈ xs, Byte f.2) (tag : Int) : Calls Tryd.prog 95 #[.int .i64 tag, .pointer (some ⟨bl, 0, none⟩), .pointer (some ⟨bo, 0, none⟩)] w0 fun e w' => e = .returned (.int .u64 (numV (fnd xs tag))) ∧ Mods (fun k => k = bo) w0 w' ∧ w'.heap[bo]? = some (.cells #[.bool (q && numOk (fnd xs tag))] 4 (0, 0)) := by
 refine calls_of_wp Tryd.func95 rfl ?_
 have hF := Fr.enter #[.int .i64 tag, .pointer (some ⟨bl, 0, none⟩), .pointer (some ⟨bo, 0, none⟩)] 25 (slotsOf [.int .i64 tag, .pointer (some ⟨bl, 0, none⟩), .pointer (some ⟨bo, 0, none⟩)] 0) (Nat.le_of_ble_eq_true rfl) (fun i v h => by have h2 := (get_slotsOf _ 0 i v h).2; simpa only [List.getElem?_toArray, Nat.sub_zero] using h2)
 rw [Tryd.ntmps95]
 revert hF; generalize (⟨(#[.int .i64 tag, .pointer (some ⟨bl, 0, none⟩), .pointer (some ⟨bo, 0, none⟩)] : Array Value) ++ Array.replicate (25 - (#[.int .i64 tag, .pointer (some ⟨bl, 0, none⟩), .pointer (some ⟨bo, 0, none⟩)] : Array Value).size) undef, []⟩ : Act) = a; intro hF
 have hH := Hp.ownblk 2 hbo
 have hH := hH.seen 1 ((Asn.blk bl (.cells #[.slice A xs.length c] 100 (0, 0))).ro) (fun _ h => h) hbl (fun kb hk => by rcases hk with hk | hk; (rw [show kb = bl from hk]; exact (Array.getElem?_eq_some_iff.1 hbl).1); exact hk.elim) (fun i A' hA kb hk hk2 => by rcases get_one hA with ⟨_, rfl⟩ | ⟨_, h⟩; rcases hk2 with hk2 | hk2; exact hne ((show kb = bl from hk2).symm.trans hk); exact hk2.elim; simp [Sx.get] at h)
 have hH := hH.readable 901 hr hok (fun i X hX k hk hk2 => by rw [Sx.get_cons] at hX; split at hX; (cases hX; exact hk); rcases get_one hX with ⟨_, rfl⟩ | ⟨_, h⟩; exact hne2 k hk2 hk; simp [Sx.get] at h)
 have hle901 := hr.le; unfold maxLen at hle901
 refine wp_seq_k fun khK1 hK1 => ?_
 refine wp_region_lit ?_
 refine l_at hF rfl rfl rfl (x_assign rfl) ?_; clear hF; intro a hF
 refine wpList_nil ?_
 refine hK1 _ _ ?_
 refine wp_seq_k fun khK2 hK2 => ?_
 refine wp_region_lit ?_
 refine l_at hF rfl rfl rfl (x_load1 ty100 (hF.tmp 1 rfl) (blk_cell (hH.atro 1 rfl) 0 rfl)) ?_; clear hF; intro a hF
 refine l_at hF rfl rfl rfl (x_move (hF.tmp 0 rfl)) ?_; clear hF; intro a hF
 refine wpList_plain rfl fun K hK => ?_
 refine w_call hF (x_enter Tryd.func65 (by kernel_rfl) rfl (by simp only [List.map_toArray, List.map_cons, List.map_nil, hF.tmp 10 rfl, hF.tmp 11 rfl] <;> rfl)) (dfind_calls _ tag ((hH.rd 901 rfl)) hsh) rfl rfl ?_
 rintro _ w ⟨vr9, rfl, hm_, hr_⟩; refine ⟨_, rfl, ?_⟩; clear hF; intro a hF; have hH := Hp.rowOut hH 9 hm_ hr_; obtain ⟨Ar9, cr9, rfl⟩ := (hH.row 9 rfl).form
 refine hK _ _ ?_; clear hK K
 refine l_at hF rfl rfl rfl (x_move (hF.tmp 12 rfl)) ?_; clear hF; intro a hF
 refine l_at hF rfl rfl rfl (x_extract (hF.tmp 9 rfl) rfl) ?_; clear hF; intro a hF
 refine l_at hF rfl rfl rfl (x_extract (hF.tmp 9 rfl) rfl) ?_; clear hF; intro a hF
 refine l_at hF rfl rfl rfl (x_assign (hF.tmp 13 rfl)) ?_; clear hF; intro a hF
 refine l_at hF rfl rfl rfl (x_assign (hF.tmp 14 rfl)) ?_; clear hF; intro a hF
 refine wpList_nil ?_
 refine hK2 _ _ ?_
 refine wp_seq_k fun khK3 hK3 => ?_
 refine wp_region_lit ?_
 refine l_at hF rfl rfl rfl (x_move (hF.tmp 5 rfl)) ?_; clear hF; intro a hF
 refine wpList_plain rfl fun K hK => ?_
 refine w_call hF (x_enter Tryd.func66 (by kernel_rfl) rfl (by simp only [List.map_toArray, List.map_cons, List.map_nil, hF.tmp 16 rfl] <;> rfl)) (num_calls _ (Row.rd (ok' := fun k_ => (fun _ => False) k_ ∨ (.slice Ar9 (fnd xs tag).length cr9 : Value).ownBlock = some k_) (hH.row 9 rfl) (fun _ hk_ _ => .inl hk_) (fun _ hk_ => .inr hk_)) (fnd_byte hbf tag)) rfl rfl ?_
 rintro _ w ⟨rfl, hm_⟩; refine ⟨_, rfl, ?_⟩; clear hF; intro a hF; have hH := hH.same hm_
 refine hK _ _ ?_; clear hK K
 refine l_at hF rfl rfl rfl (x_move (hF.tmp 17 rfl)) ?_; clear hF; intro a hF
 refine l_at hF rfl rfl rfl (x_extract (hF.tmp 15 rfl) rfl) ?_; clear hF; intro a hF
 refine l_at hF rfl rfl rfl (x_extract (hF.tmp 15 rfl) rfl) ?_; clear hF; intro a hF
 refine l_at hF rfl rfl rfl (x_assign (hF.tmp 18 rfl)) ?_; clear hF; intro a hF
 refine l_at hF rfl rfl rfl (x_assign (hF.tmp 19 rfl)) ?_; clear hF; intro a hF
 refine wpList_nil ?_
 refine hK3 _ _ ?_
 refine wp_seq_k fun khK4 hK4 => ?_
 refine wp_region_lit ?_
 refine l_at hF rfl rfl rfl (x_load1 ty4 (hF.tmp 2 rfl) (blk_cell (hH.at 2 rfl) 0 rfl)) ?_; clear hF; intro a hF
 refine l_at hF rfl rfl rfl (x_move (hF.tmp 20 rfl)) ?_; clear hF; intro a hF
 refine split_bool hF 21 rfl (fun hb21 => ?_) (fun hb21 => ?_)
 ·have hc21 := hb21; try simp only [Bool.or_eq_true, Bool.and_eq_true, Bool.or_eq_false_iff, Bool.and_eq_false_iff, Bool.not_eq_true', Bool.not_eq_false', decide_eq_true_eq, decide_eq_false_iff_not, Bool.not_true, Bool.not_false] at hc21
  refine l_atg hF ((wanted_of hF rfl rfl rfl rfl).trans (by rw [hb21]; rfl)) rfl rfl (x_move (hF.tmp 8 rfl)) ?_; clear hF; intro a hF
  refine l_at hF rfl rfl rfl (x_pickT (hF.tmp 21 rfl) hb21 (hF.tmp 22 rfl)) ?_; clear hF; intro a hF
  refine wpList_plain rfl fun K hK => ?_
  refine w_store 2 hH ty4 rfl (hF.tmp 2 rfl) (hF.tmp 23 rfl) rfl (one1 rfl rfl) (by first | decide | exact Nat.le_of_ble_eq_true rfl) ?_
  clear hH; intro w hH
  refine hK _ _ ?_; clear hK K
  refine wpList_nil ?_
  refine hK4 _ _ ?_
  refine wp_seq_k fun khK5 hK5 => ?_
  refine wp_region_lit ?_
  refine l_at hF rfl rfl rfl (x_move (hF.tmp 7 rfl)) ?_; clear hF; intro a hF
  refine l_at hF rfl rfl rfl (x_assign (hF.tmp 24 rfl)) ?_; clear hF; intro a hF
  refine wpList_nil ?_
  refine hK5 _ _ ?_
  refine wp_ret ?_
  try simp only [Exit.then, Exit.inBlock]
  have hv : ((numOk (fnd xs tag))) = (q && numOk (fnd xs tag)) := by simp [hc21]
  rw [hv] at hH
  exact fin_ret hF (res1 hF rfl rfl) ⟨rfl, hH.mods, hH.at 2 rfl⟩
 ·have hc21 := hb21; try simp only [Bool.or_eq_true, Bool.and_eq_true, Bool.or_eq_false_iff, Bool.and_eq_false_iff, Bool.not_eq_true', Bool.not_eq_false', decide_eq_true_eq, decide_eq_false_iff_not, Bool.not_true, Bool.not_false] at hc21
  refine l_offg hF ((wanted_of hF rfl rfl rfl rfl).trans (by rw [hb21]; rfl)) rfl rfl ?_; clear hF; intro a hF
  refine l_at hF rfl rfl rfl (x_pickF (hF.tmp 21 rfl) hb21 rfl) ?_; clear hF; intro a hF
  refine wpList_plain rfl fun K hK => ?_
  refine w_store 2 hH ty4 rfl (hF.tmp 2 rfl) (hF.tmp 23 rfl) rfl (one1 rfl rfl) (by first | decide | exact Nat.le_of_ble_eq_true rfl) ?_
  clear hH; intro w hH
  refine hK _ _ ?_; clear hK K
  refine wpList_nil ?_
  refine hK4 _ _ ?_
  refine wp_seq_k fun khK6 hK6 => ?_
  refine wp_region_lit ?_
  refine l_at hF rfl rfl rfl (x_move (hF.tmp 7 rfl)) ?_; clear hF; intro a hF
  refine l_at hF rfl rfl rfl (x_assign (hF.tmp 24 rfl)) ?_; clear hF; intro a hF
  refine wpList_nil ?_
  refine hK6 _ _ ?_
  refine wp_ret ?_
  try simp only [Exit.then, Exit.inBlock]
  have hv : (false) = (q && numOk (fnd xs tag)) := by simp [hc21]
  rw [hv] at hH
  exact fin_ret hF (res1 hF rfl rfl) ⟨rfl, hH.mods, hH.at 2 rfl⟩
set_option maxRecDepth 100000 in
set_option maxHeartbeats 1000000 in
theorem decC_calls (w0 : World) (hL : LibAt true w0) {ok : Nat → Prop} {A : Option Addr} {bs : List Int} {c : Nat} (hrb : Rd (.int .u8) w0 ok A bs c) (hby : Byte bs) : Calls Tryd.prog 67 #[.slice A bs.length c] w0 fun e w' => ∃ (x : ChangeD) (Ad : Option Addr) (cd : Nat) (g : Int), e = .returned (.tuple #[.agg #[.int .i64 x.kind, .string (strOfNums x.key), .string (strOfNums x.value), .string (strOfNums x.timer.name), .int .i64 x.timer.ver, .int .u64 x.timer.tick, .int .u64 x.timer.every, .slice Ad x.timer.steps.length cd], .int .i64 g]) ∧ Mods (fun _ => False) w0 w' ∧ RowOut StE 53 w0 w' (.slice Ad x.timer.steps.length cd) x.timer.steps ∧ DecC bs x g := by
 refine calls_of_wp Tryd.func67 rfl ?_
 have hF := Fr.enter #[.slice A bs.length c] 97 (slotsOf [.slice A bs.length c] 0) (Nat.le_of_ble_eq_true rfl) (fun i v h => by have h2 := (get_slotsOf _ 0 i v h).2; simpa only [List.getElem?_toArray, Nat.sub_zero] using h2)
 have hH := Hp.nil (fun _ => False) w0
 rw [Tryd.ntmps67]
 revert hF; generalize (⟨(#[.slice A bs.length c] : Array Value) ++ Array.replicate (97 - (#[.slice A bs.length c] : Array Value).size) undef, []⟩ : Act) = a; intro hF
 have hH := hH.arg 901 hrb.all (fun _ h => ⟨h, fun h => h⟩)
 have hleb := hrb.le; unfold maxLen at hleb
 have hH := hH.libN 990 hL
 refine wp_seq_k fun khK1 hK1 => ?_
 refine wp_region_lit ?_
 refine wpList_plain rfl fun K hK => ?_
 refine w_alloc 2 hF hH rfl ty41 ?_
 clear hF hH; intro a w b2 hF hH
 refine hK _ _ ?_; clear hK K
 refine l_at hF rfl rfl rfl (x_assign rfl) ?_; clear hF; intro a hF
 refine wpList_nil ?_
 refine hK1 _ _ ?_
 refine wp_seq_k fun khK2 hK2 => ?_
 refine wp_region_lit ?_
 refine l_at hF rfl rfl rfl (x_move (hF.tmp 0 rfl)) ?_; clear hF; intro a hF
 refine wpList_plain rfl fun K hK => ?_
 refine w_call hF (x_enter Tryd.func64 (by kernel_rfl) rfl (by simp only [List.map_toArray, List.map_cons, List.map_nil, hF.tmp 18 rfl] <;> rfl)) (dec_calls _ ((hH.rd 901 rfl)) hby) rfl rfl ?_
 rintro _ w ⟨vr17, rfl, hm_, okr17, hr_, hf_, ho17_⟩; refine ⟨_, rfl, ?_⟩; clear hF; intro a hF; have hH := hH.newRow 17 hm_ hr_ hf_ ho17_; obtain ⟨Ar17, cr17, rfl⟩ := (hH.row 17 rfl).form
 refine hK _ _ ?_; clear hK K
 refine l_at hF rfl rfl rfl (x_move (hF.tmp 19 rfl)) ?_; clear hF; intro a hF
 refine l_at hF rfl rfl rfl (x_extract (hF.tmp 17 rfl) rfl) ?_; clear hF; intro a hF
 refine l_at hF rfl rfl rfl (x_extract (hF.tmp 17 rfl) rfl) ?_; clear hF; intro a hF
 refine wpList_plain rfl fun K hK => ?_
 refine w_alloc 4 hF hH rfl ty100 ?_
 clear hF hH; intro a w b4 hF hH
 refine hK _ _ ?_; clear hK K
 refine wpList_plain rfl fun K hK => ?_
 refine w_store 4 hH ty100 rfl (hF.tmp 4 rfl) (hF.tmp 20 rfl) rfl (one1 rfl rfl) (by first | decide | exact Nat.le_of_ble_eq_true rfl) ?_
 clear hH; intro w hH
 refine hK _ _ ?_; clear hK K
 refine l_at hF rfl rfl rfl (x_assign (hF.tmp 21 rfl)) ?_; clear hF; intro a hF
 refine wpList_nil ?_
 refine hK2 _ _ ?_
 refine wp_seq_k fun khK3 hK3 => ?_
 refine wp_seq_k fun khK4 hK4 => ?_
 refine wp_region_lit ?_
 refine l_at hF rfl rfl rfl (x_move (hF.tmp 5 rfl)) ?_; clear hF; intro a hF
 refine l_at hF rfl rfl rfl (x_neq (hF.tmp 22 rfl) rfl) ?_; clear hF; intro a hF
 refine wpList_nil ?_
 refine hK4 _ _ ?_
 refine wp_cond_split (hF.tmp 23 rfl) (fun hc23 => ?_) (fun hc23 => ?_)
 ·have hk23_1 := hc23; try simp only [Bool.or_eq_true, Bool.and_eq_true, Bool.or_eq_false_iff, Bool.and_eq_false_iff, Bool.not_eq_true', Bool.not_eq_false', decide_eq_true_eq, decide_eq_false_iff_not, Bool.not_true, Bool.not_false] at hc23
  have hz : NoC bs := noC_none (by cases hd : decR bs with | none => rfl | some l => rw [hd] at hc23; exact absurd rfl hc23)
  refine wp_seq_k fun khK5 hK5 => ?_
  refine wp_region_lit ?_
  refine l_at hF rfl rfl rfl (x_buildS (cells := #[.int .i64 0, .string (strOfNums []), .string (strOfNums []), .string (strOfNums []), .int .i64 0, .int .u64 0, .int .u64 0, .slice none 0 0]) (places := #[(0, 1), (1, 1), (2, 1), (3, 5)]) Tryd.underlying41 ty41 (by kernel_rfl) Array.map_empty rfl) ?_; clear hF; intro a hF
  refine wpList_plain rfl fun K hK => ?_
  refine w_storeA 2 hH ty41 rfl (hF.tmp 2 rfl) (hF.tmp 24 rfl) rfl (by simp [Value.cells, Value.oneCell']) rfl ?_
  clear hH; intro w hH
  refine hK _ _ ?_; clear hK K
  refine l_at hF rfl rfl rfl (x_assign rfl) ?_; clear hF; intro a hF
  refine wpList_nil ?_
  refine hK5 _ _ ?_
  refine wp_ret ?_
  try simp only [Exit.then, Exit.inBlock]
  exact fin_ret hF (resct hF rfl rfl rfl (hH.at 2 rfl) ty41 rfl) ⟨⟨0, [], [], ⟨[], 0, 0, 0, []⟩⟩, none, 0, 12, rfl, hH.mods, RowOut.nil _ _ _ _, DecC.no hz⟩
 ·have hk23_2 := hc23; try simp only [Bool.or_eq_true, Bool.and_eq_true, Bool.or_eq_false_iff, Bool.and_eq_false_iff, Bool.not_eq_true', Bool.not_eq_false', decide_eq_true_eq, decide_eq_false_iff_not, Bool.not_true, Bool.not_false] at hc23
  obtain ⟨dl, hdl⟩ := dec_zero hc23
  rw [hdl, Option.getD_some] at hF hH
  have hsh := short_of hby hdl
  have hbf := fld_bytes hby hdl
  have hH := hH.freeze 17 rfl (fun kb => okr17 kb ∨ (Value.slice Ar17 dl.length cr17).ownBlock = some kb) (fun kb => Iff.rfl)
  refine wp_skip ?_
  refine hK3 _ _ ?_
  refine wp_seq_k fun khK6 hK6 => ?_
  refine wp_region_lit ?_
  refine l_at hF rfl rfl rfl (x_load1 ty100 (hF.tmp 4 rfl) (blk_cell (hH.at 4 rfl) 0 rfl)) ?_; clear hF; intro a hF
  refine wpList_plain rfl fun K hK => ?_
  refine w_call hF (x_enter Tryd.func65 (by kernel_rfl) rfl (by simp only [List.map_toArray, List.map_cons, List.map_nil, hF.tmp 26 rfl] <;> rfl)) (dfind_calls _ 1 ((hH.rd 17 rfl)) hsh) rfl rfl ?_
  rintro _ w ⟨vr25, rfl, hm_, hr_⟩; refine ⟨_, rfl, ?_⟩; clear hF; intro a hF; have hH := Hp.rowOut hH 25 hm_ hr_; obtain ⟨Ar25, cr25, rfl⟩ := (hH.row 25 rfl).form
  refine hK _ _ ?_; clear hK K
  refine l_at hF rfl rfl rfl (x_move (hF.tmp 27 rfl)) ?_; clear hF; intro a hF
  refine l_at hF rfl rfl rfl (x_extract (hF.tmp 25 rfl) rfl) ?_; clear hF; intro a hF
  refine l_at hF rfl rfl rfl (x_extract (hF.tmp 25 rfl) rfl) ?_; clear hF; intro a hF
  refine l_at hF rfl rfl rfl (x_assign (hF.tmp 28 rfl)) ?_; clear hF; intro a hF
  have hH := hH.freeze 25 rfl (fun kb => (Value.slice Ar25 (fnd dl 1).length cr25).ownBlock = some kb) (fun kb => ⟨fun h => .inr h, fun h => h.resolve_left id⟩)
  refine l_at hF rfl rfl rfl (x_assign (hF.tmp 29 rfl)) ?_; clear hF; intro a hF
  refine wpList_nil ?_
  refine hK6 _ _ ?_
  refine wp_seq_k fun khK7 hK7 => ?_
  refine wp_seq_k fun khK8 hK8 => ?_
  refine wp_region_lit ?_
  refine l_at hF rfl rfl rfl (x_move (hF.tmp 6 rfl)) ?_; clear hF; intro a hF
  refine l_at hF rfl rfl rfl (x_len_slice Tryd.underlying28 (hF.tmp 30 rfl)) ?_; clear hF; intro a hF
  refine l_at hF rfl rfl rfl (x_neq (hF.tmp 31 rfl) rfl) ?_; clear hF; intro a hF
  refine wpList_nil ?_
  refine hK8 _ _ ?_
  refine wp_cond_split (hF.tmp 32 rfl) (fun hc32 => ?_) (fun hc32 => ?_)
  ·have hk32_3 := hc32; try simp only [Bool.or_eq_true, Bool.and_eq_true, Bool.or_eq_false_iff, Bool.and_eq_false_iff, Bool.not_eq_true', Bool.not_eq_false', decide_eq_true_eq, decide_eq_false_iff_not, Bool.not_true, Bool.not_false] at hc32
   have hz := noC_kind hdl hc32
   refine wp_seq_k fun khK9 hK9 => ?_
   refine wp_region_lit ?_
   refine l_at hF rfl rfl rfl (x_buildS (cells := #[.int .i64 0, .string (strOfNums []), .string (strOfNums []), .string (strOfNums []), .int .i64 0, .int .u64 0, .int .u64 0, .slice none 0 0]) (places := #[(0, 1), (1, 1), (2, 1), (3, 5)]) Tryd.underlying41 ty41 (by kernel_rfl) Array.map_empty rfl) ?_; clear hF; intro a hF
   refine wpList_plain rfl fun K hK => ?_
   refine w_storeA 2 hH ty41 rfl (hF.tmp 2 rfl) (hF.tmp 33 rfl) rfl (by simp [Value.cells, Value.oneCell']) rfl ?_
   clear hH; intro w hH
   refine hK _ _ ?_; clear hK K
   refine l_at hF rfl rfl rfl (x_assign rfl) ?_; clear hF; intro a hF
   refine wpList_nil ?_
   refine hK9 _ _ ?_
   refine wp_ret ?_
   try simp only [Exit.then, Exit.inBlock]
   exact fin_ret hF (resct hF rfl rfl rfl (hH.at 2 rfl) ty41 rfl) ⟨⟨0, [], [], ⟨[], 0, 0, 0, []⟩⟩, none, 0, 12, rfl, hH.mods, RowOut.nil _ _ _ _, DecC.no hz⟩
  ·have hk32_4 := hc32; try simp only [Bool.or_eq_true, Bool.and_eq_true, Bool.or_eq_false_iff, Bool.and_eq_false_iff, Bool.not_eq_true', Bool.not_eq_false', decide_eq_true_eq, decide_eq_false_iff_not, Bool.not_true, Bool.not_false] at hc32
   have hl1 : ((fnd dl 1).length : Int) = 1 := by omega
   refine wp_skip ?_
   refine hK7 _ _ ?_
   refine wp_seq_k fun khK10 hK10 => ?_
   refine wp_region_lit ?_
   refine wpList_plain rfl fun K hK => ?_
   refine w_alloc 8 hF hH rfl ty4 ?_
   clear hF hH; intro a w b8 hF hH
   refine hK _ _ ?_; clear hK K
   refine wpList_plain rfl fun K hK => ?_
   refine w_store 8 hH ty4 rfl (hF.tmp 8 rfl) rfl rfl (one1 rfl rfl) (by first | decide | exact Nat.le_of_ble_eq_true rfl) ?_
   clear hH; intro w hH
   refine hK _ _ ?_; clear hK K
   refine wpList_nil ?_
   refine hK10 _ _ ?_
   refine wp_seq_k fun khK11 hK11 => ?_
   refine wp_region_lit ?_
   refine l_at hF rfl rfl rfl (x_mkfunc (vs := #[.pointer (some ⟨b4, 0, none⟩)]) (by simp only [List.map_toArray, List.map_cons, List.map_nil, hF.tmp 4 rfl] <;> rfl)) ?_; clear hF; intro a hF
   refine l_at hF rfl rfl rfl (x_assign (hF.tmp 34 rfl)) ?_; clear hF; intro a hF
   refine wpList_nil ?_
   refine hK11 _ _ ?_
   refine wp_seq_k fun khK12 hK12 => ?_
   refine wp_region_lit ?_
   refine l_at hF rfl rfl rfl (x_mkfunc (vs := #[.pointer (some ⟨b4, 0, none⟩), .pointer (some ⟨b8, 0, none⟩)]) (by simp only [List.map_toArray, List.map_cons, List.map_nil, hF.tmp 4 rfl, hF.tmp 8 rfl] <;> rfl)) ?_; clear hF; intro a hF
   refine l_at hF rfl rfl rfl (x_assign (hF.tmp 35 rfl)) ?_; clear hF; intro a hF
   refine wpList_nil ?_
   refine hK12 _ _ ?_
   refine wp_seq_k fun khK13 hK13 => ?_
   have hJr10 : ∀ a w, ∀ b11 : Nat, Fr 97 a [(0, .slice A bs.length c), (2, .pointer (some ⟨b2, 0, none⟩)), (8, .pointer (some ⟨b8, 0, none⟩)), (9, .func (.func 94) #[] #[.pointer (some ⟨b4, 0, none⟩)]), (10, .func (.func 95) #[] #[.pointer (some ⟨b4, 0, none⟩), .pointer (some ⟨b8, 0, none⟩)]), (11, .pointer (some ⟨b11, 0, none⟩))] → Hp (fun _ => False) w0 w [(901, .rd_ (.int .u8) A bs c (fun k => k < w0.heap.size)), (990, .lib true), (2, .blk b2 (.cells #[.int .i64 0, .string (strOfNums []), .string (strOfNums []), .string (strOfNums []), .int .i64 0, .int .u64 0, .int .u64 0, .slice none 0 0] 41 (0, 0))), (17, .rd_ FE Ar17 dl cr17 (fun kb => okr17 kb ∨ (Value.slice Ar17 dl.length cr17).ownBlock = some kb)), (4, .blk b4 (.cells #[.slice Ar17 dl.length cr17] 100 (0, 0))), (25, .rd_ (.int .u8) Ar25 (fnd dl 1) cr25 (fun kb => (Value.slice Ar25 (fnd dl 1).length cr25).ownBlock = some kb)), (8, .blk b8 (.cells #[.bool true] 4 (0, 0))), (11, .blk b11 (.cells #[.int .i64 (gi (fnd dl 1) 0), .string (strOfNums (fnd dl 2)), .string (strOfNums (fnd dl 3)), .string (strOfNums []), .int .i64 0, .int .u64 0, .int .u64 0, .slice none 0 0] 41 (0, 0)))] → khK13 a w := by
    intro a w b11 hF hH
    refine hK13 a w ?_
    refine wp_seq_k fun khK14 hK14 => ?_
    refine wp_seq_k fun khK15 hK15 => ?_
    refine wp_region_lit ?_
    refine l_at hF rfl rfl rfl (x_faddr Tryd.underlying41 rfl ty36 (by decide) (hF.tmp 11 rfl) rfl) ?_; clear hF; intro a hF
    refine l_at hF rfl rfl rfl (x_load1 ty36 (hF.tmp 45 rfl) (blk_cell (hH.at 11 rfl) 0 rfl)) ?_; clear hF; intro a hF
    refine l_at hF rfl rfl rfl (x_eql (hF.tmp 46 rfl) rfl) ?_; clear hF; intro a hF
    refine wpList_nil ?_
    refine hK15 _ _ ?_
    refine wp_cond_split (hF.tmp 47 rfl) (fun hc47 => ?_) (fun hc47 => ?_)
    ·have hk47_5 := hc47; try simp only [Bool.or_eq_true, Bool.and_eq_true, Bool.or_eq_false_iff, Bool.and_eq_false_iff, Bool.not_eq_true', Bool.not_eq_false', decide_eq_true_eq, decide_eq_false_iff_not, Bool.not_true, Bool.not_false] at hc47
     have hcc : cOf dl = (⟨(gi (fnd dl 1) 0), fnd dl 2, fnd dl 3, tOfL dl⟩ : ChangeD) := by unfold cOf; rw [if_pos hc47]
     refine wp_seq_k fun khK16 hK16 => ?_
     refine wp_region_lit ?_
     refine l_at hF rfl rfl rfl (x_move (hF.tmp 10 rfl)) ?_; clear hF; intro a hF
     refine wpList_plain rfl fun K hK => ?_
     refine w_call hF (x_enterC (vs := #[.int .i64 5]) (caps := #[.pointer (some ⟨b4, 0, none⟩), .pointer (some ⟨b8, 0, none⟩)]) (args := #[.int .i64 5, .pointer (some ⟨b4, 0, none⟩), .pointer (some ⟨b8, 0, none⟩)]) Tryd.func95 (by kernel_rfl) rfl (hF.tmp 48 rfl) (by simp only [List.map_toArray, List.map_cons, List.map_nil] <;> rfl) rfl) (number_calls2 (bl := b4) (bo := b8) (q := true) _ (hH.rd 17 rfl) (hH.at 4 rfl) (hH.at 8 rfl) (fun e => hH.sep 4 8 _ _ (by decide) rfl rfl b4 rfl (.inl e)) (fun k hk => hH.inb 17 _ rfl k (.inr hk)) (fun k hk e => hH.sep 8 17 _ _ (by decide) rfl rfl k e (.inr hk)) hsh hbf 5) rfl rfl ?_
     rintro _ w ⟨rfl, hm_, hb_⟩; refine ⟨_, rfl, ?_⟩; clear hF; intro a hF; have hH := hH.put 8 rfl _ hm_ hb_
     refine hK _ _ ?_; clear hK K
     refine l_at hF rfl rfl rfl (x_assign (hF.tmp 49 rfl)) ?_; clear hF; intro a hF
     refine wpList_nil ?_
     refine hK16 _ _ ?_
     refine wp_seq_k fun khK17 hK17 => ?_
     refine wp_region_lit ?_
     refine l_at hF rfl rfl rfl (x_move (hF.tmp 9 rfl)) ?_; clear hF; intro a hF
     refine wpList_plain rfl fun K hK => ?_
     refine w_call hF (x_enterC (vs := #[.int .i64 8]) (caps := #[.pointer (some ⟨b4, 0, none⟩)]) (args := #[.int .i64 8, .pointer (some ⟨b4, 0, none⟩)]) Tryd.func94 (by kernel_rfl) rfl (hF.tmp 51 rfl) (by simp only [List.map_toArray, List.map_cons, List.map_nil] <;> rfl) rfl) (dtext_calls (bl := b4) _ (hH.rd 17 rfl) (hH.at 4 rfl) hsh 8) rfl rfl ?_
     rintro _ w ⟨rfl, hm_⟩; refine ⟨_, rfl, ?_⟩; clear hF; intro a hF; have hH := hH.same hm_
     refine hK _ _ ?_; clear hK K
     refine wpList_plain rfl fun K hK => ?_
     refine w_s2b 53 (xs := (fnd dl 8)) hF hH rfl Tryd.underlying9 Tryd.underlying28 Tryd.underlying5 (hF.tmp 52 rfl) (fnd_byte hbf 8) (by have := fnd_len hsh 8; omega) ?_
     clear hF hH; intro a w b53 c53 hb53_ hF hH
     refine hK _ _ ?_; clear hK K
     refine wpList_plain rfl fun K hK => ?_
     refine w_call hF (x_enter Tryd.func96 (by kernel_rfl) rfl (by simp only [List.map_toArray, List.map_cons, List.map_nil, hF.tmp 53 rfl] <;> rfl)) (adec_calls _ (hH.holds 990 _ rfl) ((hH.rd 53 rfl)) (fnd_byte hbf 8)) rfl rfl ?_
     rintro _ w ⟨vr50, rfl, hm_, hr_⟩; refine ⟨_, rfl, ?_⟩; clear hF; intro a hF; have hH := Hp.rowOut hH 50 hm_ hr_; obtain ⟨Ar50, cr50, rfl⟩ := (hH.row 50 rfl).form
     refine hK _ _ ?_; clear hK K
     refine l_at hF rfl rfl rfl (x_move (hF.tmp 54 rfl)) ?_; clear hF; intro a hF
     refine l_at hF rfl rfl rfl (x_extract (hF.tmp 50 rfl) rfl) ?_; clear hF; intro a hF
     refine l_at hF rfl rfl rfl (x_extract (hF.tmp 50 rfl) rfl) ?_; clear hF; intro a hF
     refine l_at hF rfl rfl rfl (x_assign (hF.tmp 55 rfl)) ?_; clear hF; intro a hF
     refine l_at hF rfl rfl rfl (x_assign (hF.tmp 56 rfl)) ?_; clear hF; intro a hF
     refine wpList_nil ?_
     refine hK17 _ _ ?_
     refine wp_seq_k fun khK18 hK18 => ?_
     have hJr14 : ∀ a w, ∀ q : Bool, (q = ((true && numOk (fnd dl 5)) && (decide (numV (fnd dl 5) ≤ 1099511627776) && decide (adE (fnd dl 8) = 0)))) → Fr 97 a [(0, .slice A bs.length c), (2, .pointer (some ⟨b2, 0, none⟩)), (8, .pointer (some ⟨b8, 0, none⟩)), (9, .func (.func 94) #[] #[.pointer (some ⟨b4, 0, none⟩)]), (10, .func (.func 95) #[] #[.pointer (some ⟨b4, 0, none⟩), .pointer (some ⟨b8, 0, none⟩)]), (11, .pointer (some ⟨b11, 0, none⟩)), (12, .int .u64 (numV (fnd dl 5))), (13, .slice Ar50 ((adecR (fnd dl 8)).getD []).length cr50)] → Hp (fun _ => False) w0 w [(901, .rd_ (.int .u8) A bs c (fun k => k < w0.heap.size)), (990, .lib true), (2, .blk b2 (.cells #[.int .i64 0, .string (strOfNums []), .string (strOfNums []), .string (strOfNums []), .int .i64 0, .int .u64 0, .int .u64 0, .slice none 0 0] 41 (0, 0))), (17, .rd_ FE Ar17 dl cr17 (fun kb => okr17 kb ∨ (Value.slice Ar17 dl.length cr17).ownBlock = some kb)), (4, .blk b4 (.cells #[.slice Ar17 dl.length cr17] 100 (0, 0))), (25, .rd_ (.int .u8) Ar25 (fnd dl 1) cr25 (fun kb => (Value.slice Ar25 (fnd dl 1).length cr25).ownBlock = some kb)), (8, .blk b8 (.cells #[.bool q] 4 (0, 0))), (11, .blk b11 (.cells #[.int .i64 (gi (fnd dl 1) 0), .string (strOfNums (fnd dl 2)), .string (strOfNums (fnd dl 3)), .string (strOfNums []), .int .i64 0, .int .u64 0, .int .u64 0, .slice none 0 0] 41 (0, 0))), (53, .rd_ (.int .u8) (some ⟨b53, 0, none⟩) (fnd dl 8) c53 (fun kb => kb = b53)), (50, .row StE 53 (.slice Ar50 ((adecR (fnd dl 8)).getD []).length cr50) ((adecR (fnd dl 8)).getD []) (fun _ => False))] → khK18 a w := by
      intro a w q hjr14_0 hF hH
      refine hK18 a w ?_
      subst hjr14_0
      refine wp_region_lit ?_
      refine l_at hF rfl rfl rfl (x_move (hF.tmp 9 rfl)) ?_; clear hF; intro a hF
      refine wpList_plain rfl fun K hK => ?_
      refine w_call hF (x_enterC (vs := #[.int .i64 4]) (caps := #[.pointer (some ⟨b4, 0, none⟩)]) (args := #[.int .i64 4, .pointer (some ⟨b4, 0, none⟩)]) Tryd.func94 (by kernel_rfl) rfl (hF.tmp 66 rfl) (by simp only [List.map_toArray, List.map_cons, List.map_nil] <;> rfl) rfl) (dtext_calls (bl := b4) _ (hH.rd 17 rfl) (hH.at 4 rfl) hsh 4) rfl rfl ?_
      rintro _ w ⟨rfl, hm_⟩; refine ⟨_, rfl, ?_⟩; clear hF; intro a hF; have hH := hH.same hm_
      refine hK _ _ ?_; clear hK K
      refine l_at hF rfl rfl rfl (x_move (hF.tmp 12 rfl)) ?_; clear hF; intro a hF
      refine l_at hF rfl rfl rfl (x_min2 (hF.tmp 68 rfl) rfl) ?_; clear hF; intro a hF
      refine l_at hF rfl rfl rfl (x_conv Tryd.underlying3 ⟨_, Tryd.underlying34⟩ (hF.tmp 69 rfl) (w64 (by have := numV_range (fnd_byte hbf 5); unfold mn; split <;> omega) (by have := numV_range (fnd_byte hbf 5); unfold mn; split <;> omega))) ?_; clear hF; intro a hF
      refine l_at hF rfl rfl rfl (x_move (hF.tmp 10 rfl)) ?_; clear hF; intro a hF
      refine wpList_plain rfl fun K hK => ?_
      refine w_call hF (x_enterC (vs := #[.int .i64 6]) (caps := #[.pointer (some ⟨b4, 0, none⟩), .pointer (some ⟨b8, 0, none⟩)]) (args := #[.int .i64 6, .pointer (some ⟨b4, 0, none⟩), .pointer (some ⟨b8, 0, none⟩)]) Tryd.func95 (by kernel_rfl) rfl (hF.tmp 71 rfl) (by simp only [List.map_toArray, List.map_cons, List.map_nil] <;> rfl) rfl) (number_calls2 (bl := b4) (bo := b8) (q := ((true && numOk (fnd dl 5)) && (decide (numV (fnd dl 5) ≤ 1099511627776) && decide (adE (fnd dl 8) = 0)))) _ (hH.rd 17 rfl) (hH.at 4 rfl) (hH.at 8 rfl) (fun e => hH.sep 4 8 _ _ (by decide) rfl rfl b4 rfl (.inl e)) (fun k hk => hH.inb 17 _ rfl k (.inr hk)) (fun k hk e => hH.sep 8 17 _ _ (by decide) rfl rfl k e (.inr hk)) hsh hbf 6) rfl rfl ?_
      rintro _ w ⟨rfl, hm_, hb_⟩; refine ⟨_, rfl, ?_⟩; clear hF; intro a hF; have hH := hH.put 8 rfl _ hm_ hb_
      refine hK _ _ ?_; clear hK K
      refine l_at hF rfl rfl rfl (x_move (hF.tmp 10 rfl)) ?_; clear hF; intro a hF
      refine wpList_plain rfl fun K hK => ?_
      refine w_call hF (x_enterC (vs := #[.int .i64 7]) (caps := #[.pointer (some ⟨b4, 0, none⟩), .pointer (some ⟨b8, 0, none⟩)]) (args := #[.int .i64 7, .pointer (some ⟨b4, 0, none⟩), .pointer (some ⟨b8, 0, none⟩)]) Tryd.func95 (by kernel_rfl) rfl (hF.tmp 73 rfl) (by simp only [List.map_toArray, List.map_cons, List.map_nil] <;> rfl) rfl) (number_calls2 (bl := b4) (bo := b8) (q := (((true && numOk (fnd dl 5)) && (decide (numV (fnd dl 5) ≤ 1099511627776) && decide (adE (fnd dl 8) = 0))) && numOk (fnd dl 6))) _ (hH.rd 17 rfl) (hH.at 4 rfl) (hH.at 8 rfl) (fun e => hH.sep 4 8 _ _ (by decide) rfl rfl b4 rfl (.inl e)) (fun k hk => hH.inb 17 _ rfl k (.inr hk)) (fun k hk e => hH.sep 8 17 _ _ (by decide) rfl rfl k e (.inr hk)) hsh hbf 7) rfl rfl ?_
      rintro _ w ⟨rfl, hm_, hb_⟩; refine ⟨_, rfl, ?_⟩; clear hF; intro a hF; have hH := hH.put 8 rfl _ hm_ hb_
      refine hK _ _ ?_; clear hK K
      refine l_at hF rfl rfl rfl (x_move (hF.tmp 13 rfl)) ?_; clear hF; intro a hF
      refine l_at hF rfl rfl rfl (x_buildS (cells := #[.string (strOfNums (fnd dl 4)), .int .i64 (mn (numV (fnd dl 5)) 1099511627776), .int .u64 (numV (fnd dl 6)), .int .u64 (numV (fnd dl 7)), .slice Ar50 ((adecR (fnd dl 8)).getD []).length cr50]) (places := #[(0, 1), (1, 1), (2, 1), (3, 1), (4, 1)]) Tryd.underlying39 ty39 (by kernel_rfl) (by simp only [List.map_toArray, List.map_cons, List.map_nil, hF.tmp 67 rfl, hF.tmp 70 rfl, hF.tmp 72 rfl, hF.tmp 74 rfl, hF.tmp 75 rfl] <;> rfl) rfl) ?_; clear hF; intro a hF
      refine l_at hF rfl rfl rfl (x_faddr Tryd.underlying41 rfl ty39 (by decide) (hF.tmp 11 rfl) rfl) ?_; clear hF; intro a hF
      refine wpList_plain rfl fun K hK => ?_
      refine w_store 11 hH ty39 rfl (hF.tmp 77 rfl) (hF.tmp 76 rfl) rfl (by simp [Value.cells, Value.oneCell']) (by first | decide | exact Nat.le_of_ble_eq_true rfl) ?_
      clear hH; intro w hH
      refine hK _ _ ?_; clear hK K
      refine wpList_nil ?_
      refine hK14 _ _ ?_
      refine wp_seq_k fun khK19 hK19 => ?_
      refine wp_seq_k fun khK20 hK20 => ?_
      refine wp_region_lit ?_
      have hH : Hp (fun _ => False) w0 _ [(901, .rd_ (.int .u8) A bs c (fun k => k < w0.heap.size)), (990, .lib true), (2, .blk b2 (.cells #[.int .i64 0, .string (strOfNums []), .string (strOfNums []), .string (strOfNums []), .int .i64 0, .int .u64 0, .int .u64 0, .slice none 0 0] 41 (0, 0))), (17, .rd_ FE Ar17 dl cr17 (fun kb => okr17 kb ∨ (Value.slice Ar17 dl.length cr17).ownBlock = some kb)), (4, .blk b4 (.cells #[.slice Ar17 dl.length cr17] 100 (0, 0))), (25, .rd_ (.int .u8) Ar25 (fnd dl 1) cr25 (fun kb => (Value.slice Ar25 (fnd dl 1).length cr25).ownBlock = some kb)), (8, .blk b8 (.cells #[.bool ((((true && numOk (fnd dl 5)) && (decide (numV (fnd dl 5) ≤ 1099511627776) && decide (adE (fnd dl 8) = 0))) && numOk (fnd dl 6)) && numOk (fnd dl 7))] 4 (0, 0))), (11, .blk b11 (.cells #[.int .i64 (gi (fnd dl 1) 0), .string (strOfNums (fnd dl 2)), .string (strOfNums (fnd dl 3)), .string (strOfNums (fnd dl 4)), .int .i64 (mn (numV (fnd dl 5)) 1099511627776), .int .u64 (numV (fnd dl 6)), .int .u64 (numV (fnd dl 7)), .slice Ar50 ((adecR (fnd dl 8)).getD []).length cr50] 41 (0, 0))), (53, .rd_ (.int .u8) (some ⟨b53, 0, none⟩) (fnd dl 8) c53 (fun kb => kb = b53)), (50, .row StE 53 (.slice Ar50 ((adecR (fnd dl 8)).getD []).length cr50) ((adecR (fnd dl 8)).getD []) (fun _ => False))] := hH.sub _ (sub_cons (sub_cons (sub_cons (sub_cons (sub_cons (sub_cons (sub_cons (sub_cons (sub_cons (sub_cons (sub_nil _) 50 rfl) 53 rfl) 11 rfl) 8 rfl) 25 rfl) 4 rfl) 17 rfl) 2 rfl) 990 rfl) 901 rfl)
      refine l_at hF rfl rfl rfl (x_loadn ty41 (hF.tmp 11 rfl) rfl (blk_whole (hH.at 11 rfl))) ?_; clear hF; intro a hF
      refine wpList_plain rfl fun K hK => ?_
      refine w_call hF (x_enter Tryd.func15 (by kernel_rfl) rfl (by simp only [List.map_toArray, List.map_cons, List.map_nil, hF.tmp 79 rfl] <;> rfl)) (encC_calls (c := (⟨(gi (fnd dl 1) 0), fnd dl 2, fnd dl 3, tOfL dl⟩ : ChangeD)) _ (hH.holds 990 _ rfl) (Row.rd (ok' := fun k_ => (fun _ => False) k_ ∨ (.slice Ar50 ((adecR (fnd dl 8)).getD []).length cr50 : Value).ownBlock = some k_) (hH.row 50 rfl) (fun _ hk_ _ => .inl hk_) (fun _ hk_ => .inr hk_)) (hcc ▸ cOf_B hbf)) rfl rfl ?_
      rintro _ w ⟨vr80, rfl, hm_, hr_⟩; refine ⟨_, rfl, ?_⟩; clear hF; intro a hF; have hH := Hp.rowOut hH 80 hm_ hr_; obtain ⟨Ar80, cr80, rfl⟩ := (hH.row 80 rfl).form
      refine hK _ _ ?_; clear hK K
      refine l_at hF rfl rfl rfl (x_move (hF.tmp 80 rfl)) ?_; clear hF; intro a hF
      refine l_at hF rfl rfl rfl (x_extract (hF.tmp 78 rfl) rfl) ?_; clear hF; intro a hF
      refine l_at hF rfl rfl rfl (x_extract (hF.tmp 78 rfl) rfl) ?_; clear hF; intro a hF
      refine l_at hF rfl rfl rfl (x_assign (hF.tmp 81 rfl)) ?_; clear hF; intro a hF
      refine l_at hF rfl rfl rfl (x_assign (hF.tmp 82 rfl)) ?_; clear hF; intro a hF
      refine wpList_nil ?_
      refine hK20 _ _ ?_
      refine wp_seq_k fun khK21 hK21 => ?_
      refine wp_region_lit ?_
      refine l_at hF rfl rfl rfl (x_load1 ty4 (hF.tmp 8 rfl) (blk_cell (hH.at 8 rfl) 0 rfl)) ?_; clear hF; intro a hF
      refine l_at hF rfl rfl rfl (x_not (hF.tmp 83 rfl)) ?_; clear hF; intro a hF
      refine l_at hF rfl rfl rfl (x_move (hF.tmp 84 rfl)) ?_; clear hF; intro a hF
      refine split_bool hF 85 rfl (fun hb85 => ?_) (fun hb85 => ?_)
      ·have hc85 := hb85; try simp only [Bool.or_eq_true, Bool.and_eq_true, Bool.or_eq_false_iff, Bool.and_eq_false_iff, Bool.not_eq_true', Bool.not_eq_false', decide_eq_true_eq, decide_eq_false_iff_not, Bool.not_true, Bool.not_false] at hc85
       refine l_offg hF ((wanted_of hF rfl rfl rfl rfl).trans (by rw [hb85]; rfl)) rfl rfl ?_; clear hF; intro a hF
       refine l_offg hF ((wanted_of hF rfl rfl rfl rfl).trans (by rw [hb85]; rfl)) rfl rfl ?_; clear hF; intro a hF
       refine l_at hF rfl rfl rfl (x_pickT (hF.tmp 85 rfl) hb85 rfl) ?_; clear hF; intro a hF
       refine l_at hF rfl rfl rfl (x_move (hF.tmp 88 rfl)) ?_; clear hF; intro a hF
       refine l_offg hF ((wanted_of hF rfl rfl rfl rfl).trans rfl) rfl rfl ?_; clear hF; intro a hF
       refine l_offg hF ((wanted_of hF rfl rfl rfl rfl).trans rfl) rfl rfl ?_; clear hF; intro a hF
       refine l_offg hF ((wanted_of hF rfl rfl rfl rfl).trans rfl) rfl rfl ?_; clear hF; intro a hF
       refine l_offg hF ((wanted_of hF rfl rfl rfl rfl).trans rfl) rfl rfl ?_; clear hF; intro a hF
       refine l_at hF rfl rfl rfl (x_pickT (hF.tmp 89 rfl) rfl rfl) ?_; clear hF; intro a hF
       refine wpList_nil ?_
       refine hK21 _ _ ?_
       refine wp_cond_true (hF.tmp 94 rfl) ?_
       refine wp_seq_k fun khK22 hK22 => ?_
       refine wp_region_lit ?_
       refine l_at hF rfl rfl rfl (x_buildS (cells := #[.int .i64 0, .string (strOfNums []), .string (strOfNums []), .string (strOfNums []), .int .i64 0, .int .u64 0, .int .u64 0, .slice none 0 0]) (places := #[(0, 1), (1, 1), (2, 1), (3, 5)]) Tryd.underlying41 ty41 (by kernel_rfl) Array.map_empty rfl) ?_; clear hF; intro a hF
       refine wpList_plain rfl fun K hK => ?_
       refine w_storeA 2 hH ty41 rfl (hF.tmp 2 rfl) (hF.tmp 95 rfl) rfl (by simp [Value.cells, Value.oneCell']) rfl ?_
       clear hH; intro w hH
       refine hK _ _ ?_; clear hK K
       refine l_at hF rfl rfl rfl (x_assign rfl) ?_; clear hF; intro a hF
       refine wpList_nil ?_
       refine hK22 _ _ ?_
       refine wp_ret ?_
       try simp only [Exit.then, Exit.inBlock]
       have hz : NoC bs := noC_end hdl (fun hq => by
               obtain ⟨q1, q2, q3⟩ := hq
               rw [hcc] at q2 q3
               unfold okOf at q1
               rw [if_pos hc47] at q1
               simp only [Bool.and_eq_true, decide_eq_true_eq] at q1
               obtain ⟨a1, a2, a3, a4, a5⟩ := q1
               first | (simp [a1, a2, a3, a4, a5, q2, q3, adE] at hc85; done))
       exact fin_ret hF (resct hF rfl rfl rfl (hH.at 2 rfl) ty41 rfl) ⟨⟨0, [], [], ⟨[], 0, 0, 0, []⟩⟩, none, 0, 12, rfl, hH.mods, RowOut.nil _ _ _ _, DecC.no hz⟩
      ·have hc85 := hb85; try simp only [Bool.or_eq_true, Bool.and_eq_true, Bool.or_eq_false_iff, Bool.and_eq_false_iff, Bool.not_eq_true', Bool.not_eq_false', decide_eq_true_eq, decide_eq_false_iff_not, Bool.not_true, Bool.not_false] at hc85
       refine l_atg hF ((wanted_of hF rfl rfl rfl rfl).trans (by rw [hb85]; rfl)) rfl rfl (x_move (hF.tmp 16 rfl)) ?_; clear hF; intro a hF
       refine l_atg hF ((wanted_of hF rfl rfl rfl rfl).trans (by rw [hb85]; rfl)) rfl rfl (x_neq (hF.tmp 86 rfl) rfl) ?_; clear hF; intro a hF
       refine l_at hF rfl rfl rfl (x_pickF (hF.tmp 85 rfl) hb85 (hF.tmp 87 rfl)) ?_; clear hF; intro a hF
       refine l_at hF rfl rfl rfl (x_move (hF.tmp 88 rfl)) ?_; clear hF; intro a hF
       refine split_bool hF 89 rfl (fun hb89 => ?_) (fun hb89 => ?_)
       ·have hc89 := hb89; try simp only [Bool.or_eq_true, Bool.and_eq_true, Bool.or_eq_false_iff, Bool.and_eq_false_iff, Bool.not_eq_true', Bool.not_eq_false', decide_eq_true_eq, decide_eq_false_iff_not, Bool.not_true, Bool.not_false] at hc89
        refine l_offg hF ((wanted_of hF rfl rfl rfl rfl).trans (by rw [hb89]; rfl)) rfl rfl ?_; clear hF; intro a hF
        refine l_offg hF ((wanted_of hF rfl rfl rfl rfl).trans (by rw [hb89]; rfl)) rfl rfl ?_; clear hF; intro a hF
        refine l_offg hF ((wanted_of hF rfl rfl rfl rfl).trans (by rw [hb89]; rfl)) rfl rfl ?_; clear hF; intro a hF
        refine l_offg hF ((wanted_of hF rfl rfl rfl rfl).trans (by rw [hb89]; rfl)) rfl rfl ?_; clear hF; intro a hF
        refine l_at hF rfl rfl rfl (x_pickT (hF.tmp 89 rfl) hb89 rfl) ?_; clear hF; intro a hF
        refine wpList_nil ?_
        refine hK21 _ _ ?_
        refine wp_cond_true (hF.tmp 94 rfl) ?_
        refine wp_seq_k fun khK23 hK23 => ?_
        refine wp_region_lit ?_
        refine l_at hF rfl rfl rfl (x_buildS (cells := #[.int .i64 0, .string (strOfNums []), .string (strOfNums []), .string (strOfNums []), .int .i64 0, .int .u64 0, .int .u64 0, .slice none 0 0]) (places := #[(0, 1), (1, 1), (2, 1), (3, 5)]) Tryd.underlying41 ty41 (by kernel_rfl) Array.map_empty rfl) ?_; clear hF; intro a hF
        refine wpList_plain rfl fun K hK => ?_
        refine w_storeA 2 hH ty41 rfl (hF.tmp 2 rfl) (hF.tmp 95 rfl) rfl (by simp [Value.cells, Value.oneCell']) rfl ?_
        clear hH; intro w hH
        refine hK _ _ ?_; clear hK K
        refine l_at hF rfl rfl rfl (x_assign rfl) ?_; clear hF; intro a hF
        refine wpList_nil ?_
        refine hK23 _ _ ?_
        refine wp_ret ?_
        try simp only [Exit.then, Exit.inBlock]
        have hz : NoC bs := noC_end hdl (fun hq => by
                 obtain ⟨q1, q2, q3⟩ := hq
                 rw [hcc] at q2 q3
                 unfold okOf at q1
                 rw [if_pos hc47] at q1
                 simp only [Bool.and_eq_true, decide_eq_true_eq] at q1
                 obtain ⟨a1, a2, a3, a4, a5⟩ := q1
                 first | (simp [a1, a2, a3, a4, a5, q2, q3, adE] at hc89; done) | (simp [a1, a2, a3, a4, a5, q2, q3, adE] at hc85; done))
        exact fin_ret hF (resct hF rfl rfl rfl (hH.at 2 rfl) ty41 rfl) ⟨⟨0, [], [], ⟨[], 0, 0, 0, []⟩⟩, none, 0, 12, rfl, hH.mods, RowOut.nil _ _ _ _, DecC.no hz⟩
       ·have hc89 := hb89; try simp only [Bool.or_eq_true, Bool.and_eq_true, Bool.or_eq_false_iff, Bool.and_eq_false_iff, Bool.not_eq_true', Bool.not_eq_false', decide_eq_true_eq, decide_eq_false_iff_not, Bool.not_true, Bool.not_false] at hc89
        refine l_atg hF ((wanted_of hF rfl rfl rfl rfl).trans (by rw [hb89]; rfl)) rfl rfl (x_move (hF.tmp 15 rfl)) ?_; clear hF; intro a hF
        refine l_atg hF ((wanted_of hF rfl rfl rfl rfl).trans (by rw [hb89]; rfl)) rfl rfl (x_move (hF.tmp 0 rfl)) ?_; clear hF; intro a hF
        refine wpList_on ((wanted_of hF rfl rfl rfl rfl).trans (by rw [hb89]; rfl)) fun K hK => ?_
        refine w_call hF (x_enter Tryd.func68 (by kernel_rfl) rfl (by simp only [List.map_toArray, List.map_cons, List.map_nil, hF.tmp 90 rfl, hF.tmp 91 rfl] <;> rfl)) (bequal_calls _ (Row.rd (ok' := fun k_ => (fun _ => False) k_ ∨ (.slice Ar80 (encC (⟨(gi (fnd dl 1) 0), fnd dl 2, fnd dl 3, tOfL dl⟩ : ChangeD)).length cr80 : Value).ownBlock = some k_) (hH.row 80 rfl) (fun _ hk_ _ => .inl hk_) (fun _ hk_ => .inr hk_)) ((hH.rd 901 rfl)) (encC_byte (hcc ▸ cOf_B hbf)) hby) rfl rfl ?_
        rintro _ w ⟨rfl, hm_⟩; refine ⟨_, rfl, ?_⟩; clear hF; intro a hF; have hH := hH.same hm_
        refine hK _ _ ?_; clear hK K
        refine l_atg hF ((wanted_of hF rfl rfl rfl rfl).trans (by rw [hb89]; rfl)) rfl rfl (x_not (hF.tmp 92 rfl)) ?_; clear hF; intro a hF
        refine l_at hF rfl rfl rfl (x_pickF (hF.tmp 89 rfl) hb89 (hF.tmp 93 rfl)) ?_; clear hF; intro a hF
        refine wpList_nil ?_
        refine hK21 _ _ ?_
        refine wp_cond_split (hF.tmp 94 rfl) (fun hc94 => ?_) (fun hc94 => ?_)
        ·have hk94_6 := hc94; try simp only [Bool.or_eq_true, Bool.and_eq_true, Bool.or_eq_false_iff, Bool.and_eq_false_iff, Bool.not_eq_true', Bool.not_eq_false', decide_eq_true_eq, decide_eq_false_iff_not, Bool.not_true, Bool.not_false] at hc94
         refine wp_seq_k fun khK24 hK24 => ?_
         refine wp_region_lit ?_
         refine l_at hF rfl rfl rfl (x_buildS (cells := #[.int .i64 0, .string (strOfNums []), .string (strOfNums []), .string (strOfNums []), .int .i64 0, .int .u64 0, .int .u64 0, .slice none 0 0]) (places := #[(0, 1), (1, 1), (2, 1), (3, 5)]) Tryd.underlying41 ty41 (by kernel_rfl) Array.map_empty rfl) ?_; clear hF; intro a hF
         refine wpList_plain rfl fun K hK => ?_
         refine w_storeA 2 hH ty41 rfl (hF.tmp 2 rfl) (hF.tmp 95 rfl) rfl (by simp [Value.cells, Value.oneCell']) rfl ?_
         clear hH; intro w hH
         refine hK _ _ ?_; clear hK K
         refine l_at hF rfl rfl rfl (x_assign rfl) ?_; clear hF; intro a hF
         refine wpList_nil ?_
         refine hK24 _ _ ?_
         refine wp_ret ?_
         try simp only [Exit.then, Exit.inBlock]
         have hz : NoC bs := noC_end hdl (fun hq => by
                   obtain ⟨q1, q2, q3⟩ := hq
                   rw [hcc] at q2 q3
                   unfold okOf at q1
                   rw [if_pos hc47] at q1
                   simp only [Bool.and_eq_true, decide_eq_true_eq] at q1
                   obtain ⟨a1, a2, a3, a4, a5⟩ := q1
                   first | (simp [a1, a2, a3, a4, a5, q2, q3, adE] at hc94; done) | (simp [a1, a2, a3, a4, a5, q2, q3, adE] at hc89; done) | (simp [a1, a2, a3, a4, a5, q2, q3, adE] at hc85; done))
         exact fin_ret hF (resct hF rfl rfl rfl (hH.at 2 rfl) ty41 rfl) ⟨⟨0, [], [], ⟨[], 0, 0, 0, []⟩⟩, none, 0, 12, rfl, hH.mods, RowOut.nil _ _ _ _, DecC.no hz⟩
        ·have hk94_7 := hc94; try simp only [Bool.or_eq_true, Bool.and_eq_true, Bool.or_eq_false_iff, Bool.and_eq_false_iff, Bool.not_eq_true', Bool.not_eq_false', decide_eq_true_eq, decide_eq_false_iff_not, Bool.not_true, Bool.not_false] at hc94
         refine wp_skip ?_
         refine hK19 _ _ ?_
         refine wp_seq_k fun khK25 hK25 => ?_
         refine wp_region_lit ?_
         refine l_at hF rfl rfl rfl (x_loadn ty41 (hF.tmp 11 rfl) rfl (blk_whole (hH.at 11 rfl))) ?_; clear hF; intro a hF
         refine wpList_plain rfl fun K hK => ?_
         refine w_storeA 2 hH ty41 rfl (hF.tmp 2 rfl) (hF.tmp 96 rfl) rfl (by simp [Value.cells, Value.oneCell']) rfl ?_
         clear hH; intro w hH
         refine hK _ _ ?_; clear hK K
         refine l_at hF rfl rfl rfl (x_assign rfl) ?_; clear hF; intro a hF
         refine wpList_nil ?_
         refine hK25 _ _ ?_
         refine wp_ret ?_
         try simp only [Exit.then, Exit.inBlock]
         have hE : encCE (⟨(gi (fnd dl 1) 0), fnd dl 2, fnd dl 3, tOfL dl⟩ : ChangeD) = 0 := by first | exact hc94 | exact hc89 | exact hc85 | exact hc47 | exact hc32 | exact hc23
         have hX : encC (⟨(gi (fnd dl 1) 0), fnd dl 2, fnd dl 3, tOfL dl⟩ : ChangeD) = bs := by first | exact hc94 | exact hc89 | exact hc85 | exact hc47 | exact hc32 | exact hc23
         exact fin_ret hF (resct hF rfl rfl rfl (hH.at 2 rfl) ty41 rfl) ⟨(⟨(gi (fnd dl 1) 0), fnd dl 2, fnd dl 3, tOfL dl⟩ : ChangeD), Ar50, cr50, 0, rfl, hH.mods, Hp.out hH 50 rfl, ⟨hcc ▸ cOf_B hbf, .inl ⟨rfl, encCE0 hE, hX⟩⟩⟩
     refine wp_region_lit ?_
     refine l_at hF rfl rfl rfl (x_load1 ty4 (hF.tmp 8 rfl) (blk_cell (hH.at 8 rfl) 0 rfl)) ?_; clear hF; intro a hF
     refine l_at hF rfl rfl rfl (x_move (hF.tmp 57 rfl)) ?_; clear hF; intro a hF
     refine split_bool hF 58 rfl (fun hb58 => ?_) (fun hb58 => ?_)
     ·have hc58 := hb58; try simp only [Bool.or_eq_true, Bool.and_eq_true, Bool.or_eq_false_iff, Bool.and_eq_false_iff, Bool.not_eq_true', Bool.not_eq_false', decide_eq_true_eq, decide_eq_false_iff_not, Bool.not_true, Bool.not_false] at hc58
      refine l_atg hF ((wanted_of hF rfl rfl rfl rfl).trans (by rw [hb58]; rfl)) rfl rfl (x_move (hF.tmp 12 rfl)) ?_; clear hF; intro a hF
      refine l_atg hF ((wanted_of hF rfl rfl rfl rfl).trans (by rw [hb58]; rfl)) rfl rfl (x_leq (hF.tmp 59 rfl) rfl) ?_; clear hF; intro a hF
      refine l_at hF rfl rfl rfl (x_pickT (hF.tmp 58 rfl) hb58 (hF.tmp 60 rfl)) ?_; clear hF; intro a hF
      refine l_at hF rfl rfl rfl (x_move (hF.tmp 61 rfl)) ?_; clear hF; intro a hF
      refine split_bool hF 62 rfl (fun hb62 => ?_) (fun hb62 => ?_)
      ·have hc62 := hb62; try simp only [Bool.or_eq_true, Bool.and_eq_true, Bool.or_eq_false_iff, Bool.and_eq_false_iff, Bool.not_eq_true', Bool.not_eq_false', decide_eq_true_eq, decide_eq_false_iff_not, Bool.not_true, Bool.not_false] at hc62
       refine l_atg hF ((wanted_of hF rfl rfl rfl rfl).trans (by rw [hb62]; rfl)) rfl rfl (x_move (hF.tmp 14 rfl)) ?_; clear hF; intro a hF
       refine l_atg hF ((wanted_of hF rfl rfl rfl rfl).trans (by rw [hb62]; rfl)) rfl rfl (x_eql (hF.tmp 63 rfl) rfl) ?_; clear hF; intro a hF
       refine l_at hF rfl rfl rfl (x_pickT (hF.tmp 62 rfl) hb62 (hF.tmp 64 rfl)) ?_; clear hF; intro a hF
       refine wpList_plain rfl fun K hK => ?_
       refine w_store 8 hH ty4 rfl (hF.tmp 8 rfl) (hF.tmp 65 rfl) rfl (one1 rfl rfl) (by first | decide | exact Nat.le_of_ble_eq_true rfl) ?_
       clear hH; intro w hH
       refine hK _ _ ?_; clear hK K
       refine wpList_nil ?_
       exact hJr14 _ _ _ (by have h_ := hb58; simp only [Bool.true_and] at h_; first | (simp [h_, hc62]; done) | (simp [h_, hc62, adE]; done)) ((((((((hF.bare.add hF 13 rfl).add hF 12 rfl).add hF 11 rfl).add hF 10 rfl).add hF 9 rfl).add hF 8 rfl).add hF 2 rfl).add hF 0 rfl) (hH.sub _ (sub_cons (sub_cons (sub_cons (sub_cons (sub_cons (sub_cons (sub_cons (sub_cons (sub_cons (sub_cons (sub_nil _) 50 rfl) 53 rfl) 11 rfl) 8 rfl) 25 rfl) 4 rfl) 17 rfl) 2 rfl) 990 rfl) 901 rfl))
      ·have hc62 := hb62; try simp only [Bool.or_eq_true, Bool.and_eq_true, Bool.or_eq_false_iff, Bool.and_eq_false_iff, Bool.not_eq_true', Bool.not_eq_false', decide_eq_true_eq, decide_eq_false_iff_not, Bool.not_true, Bool.not_false] at hc62
       refine l_offg hF ((wanted_of hF rfl rfl rfl rfl).trans (by rw [hb62]; rfl)) rfl rfl ?_; clear hF; intro a hF
       refine l_offg hF ((wanted_of hF rfl rfl rfl rfl).trans (by rw [hb62]; rfl)) rfl rfl ?_; clear hF; intro a hF
       refine l_at hF rfl rfl rfl (x_pickF (hF.tmp 62 rfl) hb62 rfl) ?_; clear hF; intro a hF
       refine wpList_plain rfl fun K hK => ?_
       refine w_store 8 hH ty4 rfl (hF.tmp 8 rfl) (hF.tmp 65 rfl) rfl (one1 rfl rfl) (by first | decide | exact Nat.le_of_ble_eq_true rfl) ?_
       clear hH; intro w hH
       refine hK _ _ ?_; clear hK K
       refine wpList_nil ?_
       exact hJr14 _ _ _ (by have h_ := hb58; simp only [Bool.true_and] at h_; first | (simp [h_, hc62]; done) | (simp [h_, hc62, adE]; done)) ((((((((hF.bare.add hF 13 rfl).add hF 12 rfl).add hF 11 rfl).add hF 10 rfl).add hF 9 rfl).add hF 8 rfl).add hF 2 rfl).add hF 0 rfl) (hH.sub _ (sub_cons (sub_cons (sub_cons (sub_cons (sub_cons (sub_cons (sub_cons (sub_cons (sub_cons (sub_cons (sub_nil _) 50 rfl) 53 rfl) 11 rfl) 8 rfl) 25 rfl) 4 rfl) 17 rfl) 2 rfl) 990 rfl) 901 rfl))
     ·have hc58 := hb58; try simp only [Bool.or_eq_true, Bool.and_eq_true, Bool.or_eq_false_iff, Bool.and_eq_false_iff, Bool.not_eq_true', Bool.not_eq_false', decide_eq_true_eq, decide_eq_false_iff_not, Bool.not_true, Bool.not_false] at hc58
      refine l_offg hF ((wanted_of hF rfl rfl rfl rfl).trans (by rw [hb58]; rfl)) rfl rfl ?_; clear hF; intro a hF
      refine l_offg hF ((wanted_of hF rfl rfl rfl rfl).trans (by rw [hb58]; rfl)) rfl rfl ?_; clear hF; intro a hF
      refine l_at hF rfl rfl rfl (x_pickF (hF.tmp 58 rfl) hb58 rfl) ?_; clear hF; intro a hF
      refine l_at hF rfl rfl rfl (x_move (hF.tmp 61 rfl)) ?_; clear hF; intro a hF
      refine l_offg hF ((wanted_of hF rfl rfl rfl rfl).trans rfl) rfl rfl ?_; clear hF; intro a hF
      refine l_offg hF ((wanted_of hF rfl rfl rfl rfl).trans rfl) rfl rfl ?_; clear hF; intro a hF
      refine l_at hF rfl rfl rfl (x_pickF (hF.tmp 62 rfl) rfl rfl) ?_; clear hF; intro a hF
      refine wpList_plain rfl fun K hK => ?_
      refine w_store 8 hH ty4 rfl (hF.tmp 8 rfl) (hF.tmp 65 rfl) rfl (one1 rfl rfl) (by first | decide | exact Nat.le_of_ble_eq_true rfl) ?_
      clear hH; intro w hH
      refine hK _ _ ?_; clear hK K
      refine wpList_nil ?_
      exact hJr14 _ _ _ (by have h_ := hb58; simp only [Bool.true_and] at h_; first | (simp [h_]; done) | (simp [h_, adE]; done)) ((((((((hF.bare.add hF 13 rfl).add hF 12 rfl).add hF 11 rfl).add hF 10 rfl).add hF 9 rfl).add hF 8 rfl).add hF 2 rfl).add hF 0 rfl) (hH.sub _ (sub_cons (sub_cons (sub_cons (sub_cons (sub_cons (sub_cons (sub_cons (sub_cons (sub_cons (sub_cons (sub_nil _) 50 rfl) 53 rfl) 11 rfl) 8 rfl) 25 rfl) 4 rfl) 17 rfl) 2 rfl) 990 rfl) 901 rfl))
    ·have hk47_8 := hc47; try simp only [Bool.or_eq_true, Bool.and_eq_true, Bool.or_eq_false_iff, Bool.and_eq_false_iff, Bool.not_eq_true', Bool.not_eq_false', decide_eq_true_eq, decide_eq_false_iff_not, Bool.not_true, Bool.not_false] at hc47
     have hcc : cOf dl = (⟨(gi (fnd dl 1) 0), fnd dl 2, fnd dl 3, ⟨[], 0, 0, 0, []⟩⟩ : ChangeD) := by unfold cOf; rw [if_neg hc47]
     refine wp_skip ?_
     refine hK14 _ _ ?_
     refine wp_seq_k fun khK26 hK26 => ?_
     refine wp_seq_k fun khK27 hK27 => ?_
     refine wp_region_lit ?_
     have hH : Hp (fun _ => False) w0 _ [(901, .rd_ (.int .u8) A bs c (fun k => k < w0.heap.size)), (990, .lib true), (2, .blk b2 (.cells #[.int .i64 0, .string (strOfNums []), .string (strOfNums []), .string (strOfNums []), .int .i64 0, .int .u64 0, .int .u64 0, .slice none 0 0] 41 (0, 0))), (17, .rd_ FE Ar17 dl cr17 (fun kb => okr17 kb ∨ (Value.slice Ar17 dl.length cr17).ownBlock = some kb)), (4, .blk b4 (.cells #[.slice Ar17 dl.length cr17] 100 (0, 0))), (25, .rd_ (.int .u8) Ar25 (fnd dl 1) cr25 (fun kb => (Value.slice Ar25 (fnd dl 1).length cr25).ownBlock = some kb)), (8, .blk b8 (.cells #[.bool true] 4 (0, 0))), (11, .blk b11 (.cells #[.int .i64 (gi (fnd dl 1) 0), .string (strOfNums (fnd dl 2)), .string (strOfNums (fnd dl 3)), .string (strOfNums []), .int .i64 0, .int .u64 0, .int .u64 0, .slice none 0 0] 41 (0, 0)))] := hH.sub _ (sub_cons (sub_cons (sub_cons (sub_cons (sub_cons (sub_cons (sub_cons (sub_cons (sub_nil _) 11 rfl) 8 rfl) 25 rfl) 4 rfl) 17 rfl) 2 rfl) 990 rfl) 901 rfl)
     refine l_at hF rfl rfl rfl (x_loadn ty41 (hF.tmp 11 rfl) rfl (blk_whole (hH.at 11 rfl))) ?_; clear hF; intro a hF
     refine wpList_plain rfl fun K hK => ?_
     refine w_call hF (x_enter Tryd.func15 (by kernel_rfl) rfl (by simp only [List.map_toArray, List.map_cons, List.map_nil, hF.tmp 79 rfl] <;> rfl)) (encC_calls (c := (⟨(gi (fnd dl 1) 0), fnd dl 2, fnd dl 3, ⟨[], 0, 0, 0, []⟩⟩ : ChangeD)) _ (hH.holds 990 _ rfl) (Rd.nil StE _ (fun _ => False)) (hcc ▸ cOf_B hbf)) rfl rfl ?_
     rintro _ w ⟨vr80, rfl, hm_, hr_⟩; refine ⟨_, rfl, ?_⟩; clear hF; intro a hF; have hH := Hp.rowOut hH 80 hm_ hr_; obtain ⟨Ar80, cr80, rfl⟩ := (hH.row 80 rfl).form
     refine hK _ _ ?_; clear hK K
     refine l_at hF rfl rfl rfl (x_move (hF.tmp 80 rfl)) ?_; clear hF; intro a hF
     refine l_at hF rfl rfl rfl (x_extract (hF.tmp 78 rfl) rfl) ?_; clear hF; intro a hF
     refine l_at hF rfl rfl rfl (x_extract (hF.tmp 78 rfl) rfl) ?_; clear hF; intro a hF
     refine l_at hF rfl rfl rfl (x_assign (hF.tmp 81 rfl)) ?_; clear hF; intro a hF
     refine l_at hF rfl rfl rfl (x_assign (hF.tmp 82 rfl)) ?_; clear hF; intro a hF
     refine wpList_nil ?_
     refine hK27 _ _ ?_
     refine wp_seq_k fun khK28 hK28 => ?_
     refine wp_region_lit ?_
     refine l_at hF rfl rfl rfl (x_load1 ty4 (hF.tmp 8 rfl) (blk_cell (hH.at 8 rfl) 0 rfl)) ?_; clear hF; intro a hF
     refine l_at hF rfl rfl rfl (x_not (hF.tmp 83 rfl)) ?_; clear hF; intro a hF
     refine l_at hF rfl rfl rfl (x_move (hF.tmp 84 rfl)) ?_; clear hF; intro a hF
     refine l_atg hF ((wanted_of hF rfl rfl rfl rfl).trans rfl) rfl rfl (x_move (hF.tmp 16 rfl)) ?_; clear hF; intro a hF
     refine l_atg hF ((wanted_of hF rfl rfl rfl rfl).trans rfl) rfl rfl (x_neq (hF.tmp 86 rfl) rfl) ?_; clear hF; intro a hF
     refine l_at hF rfl rfl rfl (x_pickF (hF.tmp 85 rfl) rfl (hF.tmp 87 rfl)) ?_; clear hF; intro a hF
     refine l_at hF rfl rfl rfl (x_move (hF.tmp 88 rfl)) ?_; clear hF; intro a hF
     refine split_bool hF 89 rfl (fun hb89 => ?_) (fun hb89 => ?_)
     ·have hc89 := hb89; try simp only [Bool.or_eq_true, Bool.and_eq_true, Bool.or_eq_false_iff, Bool.and_eq_false_iff, Bool.not_eq_true', Bool.not_eq_false', decide_eq_true_eq, decide_eq_false_iff_not, Bool.not_true, Bool.not_false] at hc89
      refine l_offg hF ((wanted_of hF rfl rfl rfl rfl).trans (by rw [hb89]; rfl)) rfl rfl ?_; clear hF; intro a hF
      refine l_offg hF ((wanted_of hF rfl rfl rfl rfl).trans (by rw [hb89]; rfl)) rfl rfl ?_; clear hF; intro a hF
      refine l_offg hF ((wanted_of hF rfl rfl rfl rfl).trans (by rw [hb89]; rfl)) rfl rfl ?_; clear hF; intro a hF
      refine l_offg hF ((wanted_of hF rfl rfl rfl rfl).trans (by rw [hb89]; rfl)) rfl rfl ?_; clear hF; intro a hF
      refine l_at hF rfl rfl rfl (x_pickT (hF.tmp 89 rfl) hb89 rfl) ?_; clear hF; intro a hF
      refine wpList_nil ?_
      refine hK28 _ _ ?_
      refine wp_cond_true (hF.tmp 94 rfl) ?_
      refine wp_seq_k fun khK29 hK29 => ?_
      refine wp_region_lit ?_
      refine l_at hF rfl rfl rfl (x_buildS (cells := #[.int .i64 0, .string (strOfNums []), .string (strOfNums []), .string (strOfNums []), .int .i64 0, .int .u64 0, .int .u64 0, .slice none 0 0]) (places := #[(0, 1), (1, 1), (2, 1), (3, 5)]) Tryd.underlying41 ty41 (by kernel_rfl) Array.map_empty rfl) ?_; clear hF; intro a hF
      refine wpList_plain rfl fun K hK => ?_
      refine w_storeA 2 hH ty41 rfl (hF.tmp 2 rfl) (hF.tmp 95 rfl) rfl (by simp [Value.cells, Value.oneCell']) rfl ?_
      clear hH; intro w hH
      refine hK _ _ ?_; clear hK K
      refine l_at hF rfl rfl rfl (x_assign rfl) ?_; clear hF; intro a hF
      refine wpList_nil ?_
      refine hK29 _ _ ?_
      refine wp_ret ?_
      try simp only [Exit.then, Exit.inBlock]
      have hz : NoC bs := noC_end hdl (fun hq => by
             obtain ⟨q1, q2, q3⟩ := hq
             rw [hcc] at q2 q3
             first | (simp [q2, q3, adE] at hc89; done))
      exact fin_ret hF (resct hF rfl rfl rfl (hH.at 2 rfl) ty41 rfl) ⟨⟨0, [], [], ⟨[], 0, 0, 0, []⟩⟩, none, 0, 12, rfl, hH.mods, RowOut.nil _ _ _ _, DecC.no hz⟩
     ·have hc89 := hb89; try simp only [Bool.or_eq_true, Bool.and_eq_true, Bool.or_eq_false_iff, Bool.and_eq_false_iff, Bool.not_eq_true', Bool.not_eq_false', decide_eq_true_eq, decide_eq_false_iff_not, Bool.not_true, Bool.not_false] at hc89
      refine l_atg hF ((wanted_of hF rfl rfl rfl rfl).trans (by rw [hb89]; rfl)) rfl rfl (x_move (hF.tmp 15 rfl)) ?_; clear hF; intro a hF
      refine l_atg hF ((wanted_of hF rfl rfl rfl rfl).trans (by rw [hb89]; rfl)) rfl rfl (x_move (hF.tmp 0 rfl)) ?_; clear hF; intro a hF
      refine wpList_on ((wanted_of hF rfl rfl rfl rfl).trans (by rw [hb89]; rfl)) fun K hK => ?_
      refine w_call hF (x_enter Tryd.func68 (by kernel_rfl) rfl (by simp only [List.map_toArray, List.map_cons, List.map_nil, hF.tmp 90 rfl, hF.tmp 91 rfl] <;> rfl)) (bequal_calls _ (Row.rd (ok' := fun k_ => (fun _ => False) k_ ∨ (.slice Ar80 (encC (⟨(gi (fnd dl 1) 0), fnd dl 2, fnd dl 3, ⟨[], 0, 0, 0, []⟩⟩ : ChangeD)).length cr80 : Value).ownBlock = some k_) (hH.row 80 rfl) (fun _ hk_ _ => .inl hk_) (fun _ hk_ => .inr hk_)) ((hH.rd 901 rfl)) (encC_byte (hcc ▸ cOf_B hbf)) hby) rfl rfl ?_
      rintro _ w ⟨rfl, hm_⟩; refine ⟨_, rfl, ?_⟩; clear hF; intro a hF; have hH := hH.same hm_
      refine hK _ _ ?_; clear hK K
      refine l_atg hF ((wanted_of hF rfl rfl rfl rfl).trans (by rw [hb89]; rfl)) rfl rfl (x_not (hF.tmp 92 rfl)) ?_; clear hF; intro a hF
      refine l_at hF rfl rfl rfl (x_pickF (hF.tmp 89 rfl) hb89 (hF.tmp 93 rfl)) ?_; clear hF; intro a hF
      refine wpList_nil ?_
      refine hK28 _ _ ?_
      refine wp_cond_split (hF.tmp 94 rfl) (fun hc94 => ?_) (fun hc94 => ?_)
      ·have hk94_9 := hc94; try simp only [Bool.or_eq_true, Bool.and_eq_true, Bool.or_eq_false_iff, Bool.and_eq_false_iff, Bool.not_eq_true', Bool.not_eq_false', decide_eq_true_eq, decide_eq_false_iff_not, Bool.not_true, Bool.not_false] at hc94
       refine wp_seq_k fun khK30 hK30 => ?_
       refine wp_region_lit ?_
       refine l_at hF rfl rfl rfl (x_buildS (cells := #[.int .i64 0, .string (strOfNums []), .string (strOfNums []), .string (strOfNums []), .int .i64 0, .int .u64 0, .int .u64 0, .slice none 0 0]) (places := #[(0, 1), (1, 1), (2, 1), (3, 5)]) Tryd.underlying41 ty41 (by kernel_rfl) Array.map_empty rfl) ?_; clear hF; intro a hF
       refine wpList_plain rfl fun K hK => ?_
       refine w_storeA 2 hH ty41 rfl (hF.tmp 2 rfl) (hF.tmp 95 rfl) rfl (by simp [Value.cells, Value.oneCell']) rfl ?_
       clear hH; intro w hH
       refine hK _ _ ?_; clear hK K
       refine l_at hF rfl rfl rfl (x_assign rfl) ?_; clear hF; intro a hF
       refine wpList_nil ?_
       refine hK30 _ _ ?_
       refine wp_ret ?_
       try simp only [Exit.then, Exit.inBlock]
       have hz : NoC bs := noC_end hdl (fun hq => by
               obtain ⟨q1, q2, q3⟩ := hq
               rw [hcc] at q2 q3
               first | (simp [q2, q3, adE] at hc94; done) | (simp [q2, q3, adE] at hc89; done))
       exact fin_ret hF (resct hF rfl rfl rfl (hH.at 2 rfl) ty41 rfl) ⟨⟨0, [], [], ⟨[], 0, 0, 0, []⟩⟩, none, 0, 12, rfl, hH.mods, RowOut.nil _ _ _ _, DecC.no hz⟩
      ·have hk94_10 := hc94; try simp only [Bool.or_eq_true, Bool.and_eq_true, Bool.or_eq_false_iff, Bool.and_eq_false_iff, Bool.not_eq_true', Bool.not_eq_false', decide_eq_true_eq, decide_eq_false_iff_not, Bool.not_true, Bool.not_false] at hc94
       refine wp_skip ?_
       refine hK26 _ _ ?_
       refine wp_seq_k fun khK31 hK31 => ?_
       refine wp_region_lit ?_
       refine l_at hF rfl rfl rfl (x_loadn ty41 (hF.tmp 11 rfl) rfl (blk_whole (hH.at 11 rfl))) ?_; clear hF; intro a hF
       refine wpList_plain rfl fun K hK => ?_
       refine w_storeA 2 hH ty41 rfl (hF.tmp 2 rfl) (hF.tmp 96 rfl) rfl (by simp [Value.cells, Value.oneCell']) rfl ?_
       clear hH; intro w hH
       refine hK _ _ ?_; clear hK K
       refine l_at hF rfl rfl rfl (x_assign rfl) ?_; clear hF; intro a hF
       refine wpList_nil ?_
       refine hK31 _ _ ?_
       refine wp_ret ?_
       try simp only [Exit.then, Exit.inBlock]
       have hE : encCE (⟨(gi (fnd dl 1) 0), fnd dl 2, fnd dl 3, ⟨[], 0, 0, 0, []⟩⟩ : ChangeD) = 0 := by first | exact hc94 | exact hc89 | exact hc47 | exact hc32 | exact hc23
       have hX : encC (⟨(gi (fnd dl 1) 0), fnd dl 2, fnd dl 3, ⟨[], 0, 0, 0, []⟩⟩ : ChangeD) = bs := by first | exact hc94 | exact hc89 | exact hc47 | exact hc32 | exact hc23
       exact fin_ret hF (resct hF rfl rfl rfl (hH.at 2 rfl) ty41 rfl) ⟨(⟨(gi (fnd dl 1) 0), fnd dl 2, fnd dl 3, ⟨[], 0, 0, 0, []⟩⟩ : ChangeD), none, 0, 0, rfl, hH.mods, RowOut.nil _ _ _ _, ⟨hcc ▸ cOf_B hbf, .inl ⟨rfl, encCE0 hE, hX⟩⟩⟩
   refine r_start [(901, .rd_ (.int .u8) A bs c (fun k => k < w0.heap.size)), (17, .rd_ FE Ar17 dl cr17 (fun kb => okr17 kb ∨ (Value.slice Ar17 dl.length cr17).ownBlock = some kb)), (25, .rd_ (.int .u8) Ar25 (fnd dl 1) cr25 (fun kb => (Value.slice Ar25 (fnd dl 1).length cr25).ownBlock = some kb)), (2, .blk b2 (.cells #[.int .i64 0, .string (strOfNums []), .string (strOfNums []), .string (strOfNums []), .int .i64 0, .int .u64 0, .int .u64 0, .slice none 0 0] 41 (0, 0))), (4, .blk b4 (.cells #[.slice Ar17 dl.length cr17] 100 (0, 0))), (8, .blk b8 (.cells #[.bool true] 4 (0, 0)))] (by kernel_rfl) hH fun hH => ?_
   have hS : SL [(901, .rd_ (.int .u8) A bs c (fun k => k < w0.heap.size)), (17, .rd_ FE Ar17 dl cr17 (fun kb => okr17 kb ∨ (Value.slice Ar17 dl.length cr17).ownBlock = some kb)), (25, .rd_ (.int .u8) Ar25 (fnd dl 1) cr25 (fun kb => (Value.slice Ar25 (fnd dl 1).length cr25).ownBlock = some kb)), (2, .blk b2 (.cells #[.int .i64 0, .string (strOfNums []), .string (strOfNums []), .string (strOfNums []), .int .i64 0, .int .u64 0, .int .u64 0, .slice none 0 0] 41 (0, 0))), (4, .blk b4 (.cells #[.slice Ar17 dl.length cr17] 100 (0, 0))), (8, .blk b8 (.cells #[.bool true] 4 (0, 0)))] _ := SL.of hH (sub_cons (sub_cons (sub_cons (sub_cons (sub_cons (sub_cons (sub_nil _) 8 rfl) 4 rfl) 2 rfl) 25 rfl) 17 rfl) 901 rfl)
   refine r_take 0 hF rfl rfl rfl (by kernel_rfl) (by kernel_rfl) (by kernel_rfl) (fun _ _ _ h => h) rfl hS (fun w hS => x_move (hF.tmp 6 rfl)) rfl ?_; clear hF; intro a hF
   refine r_take 1 hF rfl rfl rfl (by kernel_rfl) (by kernel_rfl) (by kernel_rfl) (fun _ _ _ h => h) rfl hS (fun w hS => x_iaddr_A Tryd.underlying28 ty5 ((hH.rd 25 rfl)) (hF.tmp 36 rfl) rfl (by omega) (by omega) _) rfl ?_; clear hF; intro a hF
   refine r_take 2 hF rfl rfl rfl (by kernel_rfl) (by kernel_rfl) (by kernel_rfl) (fun _ _ _ h => h) rfl hS (fun w hS => x_load1 ty5 (hF.tmp 37 rfl) (((SL.rd hS 25 rfl)).cellA (gi_some (i := 0) (by omega) (by omega)))) rfl ?_; clear hF; intro a hF
   refine r_take 3 hF rfl rfl rfl (by kernel_rfl) (by kernel_rfl) (by kernel_rfl) (fun _ _ _ h => h) rfl hS (fun w hS => x_conv Tryd.underlying36 ⟨_, Tryd.underlying5⟩ (hF.tmp 38 rfl) (w64 (by have := ((fnd_byte hbf 1 : Byte _).gi 0); omega) (by have := ((fnd_byte hbf 1 : Byte _).gi 0); omega))) rfl ?_; clear hF; intro a hF
   refine r_take 4 hF rfl rfl rfl (by kernel_rfl) (by kernel_rfl) (by kernel_rfl) (fun _ _ _ h => h) rfl hS (fun w hS => x_move (hF.tmp 9 rfl)) rfl ?_; clear hF; intro a hF
   refine r_take 6 hF rfl rfl rfl (by kernel_rfl) (by kernel_rfl) (by kernel_rfl) (fun _ _ _ h => h) rfl hS (fun w hS => x_move (hF.tmp 9 rfl)) rfl ?_; clear hF; intro a hF
   refine r_do2 5 9 rfl rfl (by kernel_rfl) rfl rfl rfl rfl ?_ ?_
   ·
    refine w_call hF (x_enterC (vs := #[.int .i64 2]) (caps := #[.pointer (some ⟨b4, 0, none⟩)]) (args := #[.int .i64 2, .pointer (some ⟨b4, 0, none⟩)]) Tryd.func94 (by kernel_rfl) rfl (hF.tmp 40 rfl) (by simp only [List.map_toArray, List.map_cons, List.map_nil] <;> rfl) rfl) (dtext_calls (bl := b4) _ (hH.rd 17 rfl) (hH.at 4 rfl) hsh 2) rfl rfl ?_
    rintro _ w ⟨rfl, hm_⟩; refine ⟨_, rfl, ?_⟩; clear hF; intro a hF; have hH := hH.same hm_
    clear hS; have hS : SL _ _ := SL.of hH (sub_cons (sub_cons (sub_cons (sub_cons (sub_cons (sub_cons (sub_nil _) 8 rfl) 4 rfl) 2 rfl) 25 rfl) 17 rfl) 901 rfl); refine ⟨hS, ?_⟩
    refine r_do2 7 9 rfl rfl (by kernel_rfl) rfl rfl rfl rfl ?_ ?_
    ·
     refine w_call hF (x_enterC (vs := #[.int .i64 3]) (caps := #[.pointer (some ⟨b4, 0, none⟩)]) (args := #[.int .i64 3, .pointer (some ⟨b4, 0, none⟩)]) Tryd.func94 (by kernel_rfl) rfl (hF.tmp 42 rfl) (by simp only [List.map_toArray, List.map_cons, List.map_nil] <;> rfl) rfl) (dtext_calls (bl := b4) _ (hH.rd 17 rfl) (hH.at 4 rfl) hsh 3) rfl rfl ?_
     rintro _ w ⟨rfl, hm_⟩; refine ⟨_, rfl, ?_⟩; clear hF; intro a hF; have hH := hH.same hm_
     clear hS; have hS : SL _ _ := SL.of hH (sub_cons (sub_cons (sub_cons (sub_cons (sub_cons (sub_cons (sub_nil _) 8 rfl) 4 rfl) 2 rfl) 25 rfl) 17 rfl) 901 rfl); refine ⟨hS, ?_⟩
     refine r_take 8 hF rfl rfl rfl (by kernel_rfl) (by kernel_rfl) (by kernel_rfl) (fun _ _ _ h => h) rfl hS (fun w hS => x_buildS (cells := #[.int .i64 (gi (fnd dl 1) 0), .string (strOfNums (fnd dl 2)), .string (strOfNums (fnd dl 3)), .string (strOfNums []), .int .i64 0, .int .u64 0, .int .u64 0, .slice none 0 0]) (places := #[(0, 1), (1, 1), (2, 1), (3, 5)]) Tryd.underlying41 ty41 (by kernel_rfl) (by simp only [List.map_toArray, List.map_cons, List.map_nil, hF.tmp 39 rfl, hF.tmp 41 rfl, hF.tmp 43 rfl] <;> rfl) rfl) rfl ?_; clear hF; intro a hF
     refine r_do 9 rfl (by kernel_rfl) rfl rfl ?_
     refine w_alloc 11 hF hH rfl ty41 ?_
     clear hF hH; intro a w b11 hF hH
     clear hS; have hS : SL _ _ := SL.of hH (sub_cons (sub_cons (sub_cons (sub_cons (sub_cons (sub_cons (sub_nil _) 8 rfl) 4 rfl) 2 rfl) 25 rfl) 17 rfl) 901 rfl); refine ⟨hS, ?_⟩
     refine r_do 10 rfl (by kernel_rfl) rfl rfl ?_
     refine w_storeA 11 hH ty41 rfl (hF.tmp 11 rfl) (hF.tmp 44 rfl) rfl (by simp [Value.cells, Value.oneCell']) rfl ?_
     clear hH; intro w hH
     clear hS; have hS : SL _ _ := SL.of hH (sub_cons (sub_cons (sub_cons (sub_cons (sub_cons (sub_cons (sub_nil _) 8 rfl) 4 rfl) 2 rfl) 25 rfl) 17 rfl) 901 rfl); refine ⟨hS, ?_⟩
     refine r_end (by kernel_rfl) ?_; clear hS
     exact hJr10 _ _ _ ((((((hF.bare.add hF 11 rfl).add hF 10 rfl).add hF 9 rfl).add hF 8 rfl).add hF 2 rfl).add hF 0 rfl) (hH.sub _ (sub_cons (sub_cons (sub_cons (sub_cons (sub_cons (sub_cons (sub_cons (sub_cons (sub_nil _) 11 rfl) 8 rfl) 25 rfl) 4 rfl) 17 rfl) 2 rfl) 990 rfl) 901 rfl))
    ·
     refine w_alloc 11 hF hH rfl ty41 ?_
     clear hF hH; intro a w b11 hF hH
     clear hS; have hS : SL _ _ := SL.of hH (sub_cons (sub_cons (sub_cons (sub_cons (sub_cons (sub_cons (sub_nil _) 8 rfl) 4 rfl) 2 rfl) 25 rfl) 17 rfl) 901 rfl); refine ⟨hS, ?_⟩
     refine r_do 7 rfl (by kernel_rfl) rfl rfl ?_
     refine w_call hF (x_enterC (vs := #[.int .i64 3]) (caps := #[.pointer (some ⟨b4, 0, none⟩)]) (args := #[.int .i64 3, .pointer (some ⟨b4, 0, none⟩)]) Tryd.func94 (by kernel_rfl) rfl (hF.tmp 42 rfl) (by simp only [List.map_toArray, List.map_cons, List.map_nil] <;> rfl) rfl) (dtext_calls (bl := b4) _ (hH.rd 17 rfl) (hH.at 4 rfl) hsh 3) rfl rfl ?_
     rintro _ w ⟨rfl, hm_⟩; refine ⟨_, rfl, ?_⟩; clear hF; intro a hF; have hH := hH.same hm_
     clear hS; have hS : SL _ _ := SL.of hH (sub_cons (sub_cons (sub_cons (sub_cons (sub_cons (sub_cons (sub_nil _) 8 rfl) 4 rfl) 2 rfl) 25 rfl) 17 rfl) 901 rfl); refine ⟨hS, ?_⟩
     refine r_take 8 hF rfl rfl rfl (by kernel_rfl) (by kernel_rfl) (by kernel_rfl) (fun _ _ _ h => h) rfl hS (fun w hS => x_buildS (cells := #[.int .i64 (gi (fnd dl 1) 0), .string (strOfNums (fnd dl 2)), .string (strOfNums (fnd dl 3)), .string (strOfNums []), .int .i64 0, .int .u64 0, .int .u64 0, .slice none 0 0]) (places := #[(0, 1), (1, 1), (2, 1), (3, 5)]) Tryd.underlying41 ty41 (by kernel_rfl) (by simp only [List.map_toArray, List.map_cons, List.map_nil, hF.tmp 39 rfl, hF.tmp 41 rfl, hF.tmp 43 rfl] <;> rfl) rfl) rfl ?_; clear hF; intro a hF
     refine r_do 10 rfl (by kernel_rfl) rfl rfl ?_
     refine w_storeA 11 hH ty41 rfl (hF.tmp 11 rfl) (hF.tmp 44 rfl) rfl (by simp [Value.cells, Value.oneCell']) rfl ?_
     clear hH; intro w hH
     clear hS; have hS : SL _ _ := SL.of hH (sub_cons (sub_cons (sub_cons (sub_cons (sub_cons (sub_cons (sub_nil _) 8 rfl) 4 rfl) 2 rfl) 25 rfl) 17 rfl) 901 rfl); refine ⟨hS, ?_⟩
     refine r_end (by kernel_rfl) ?_; clear hS
     exact hJr10 _ _ _ ((((((hF.bare.add hF 11 rfl).add hF 10 rfl).add hF 9 rfl).add hF 8 rfl).add hF 2 rfl).add hF 0 rfl) (hH.sub _ (sub_cons (sub_cons (sub_cons (sub_cons (sub_cons (sub_cons (sub_cons (sub_cons (sub_nil _) 11 rfl) 8 rfl) 25 rfl) 4 rfl) 17 rfl) 2 rfl) 990 rfl) 901 rfl))
   ·
    refine w_alloc 11 hF hH rfl ty41 ?_
    clear hF hH; intro a w b11 hF hH
    clear hS; have hS : SL _ _ := SL.of hH (sub_cons (sub_cons (sub_cons (sub_cons (sub_cons (sub_cons (sub_nil _) 8 rfl) 4 rfl) 2 rfl) 25 rfl) 17 rfl) 901 rfl); refine ⟨hS, ?_⟩
    refine r_do 5 rfl (by kernel_rfl) rfl rfl ?_
    refine w_call hF (x_enterC (vs := #[.int .i64 2]) (caps := #[.pointer (some ⟨b4, 0, none⟩)]) (args := #[.int .i64 2, .pointer (some ⟨b4, 0, none⟩)]) Tryd.func94 (by kernel_rfl) rfl (hF.tmp 40 rfl) (by simp only [List.map_toArray, List.map_cons, List.map_nil] <;> rfl) rfl) (dtext_calls (bl := b4) _ (hH.rd 17 rfl) (hH.at 4 rfl) hsh 2) rfl rfl ?_
    rintro _ w ⟨rfl, hm_⟩; refine ⟨_, rfl, ?_⟩; clear hF; intro a hF; have hH := hH.same hm_
    clear hS; have hS : SL _ _ := SL.of hH (sub_cons (sub_cons (sub_cons (sub_cons (sub_cons (sub_cons (sub_nil _) 8 rfl) 4 rfl) 2 rfl) 25 rfl) 17 rfl) 901 rfl); refine ⟨hS, ?_⟩
    refine r_do 7 rfl (by kernel_rfl) rfl rfl ?_
    refine w_call hF (x_enterC (vs := #[.int .i64 3]) (caps := #[.pointer (some ⟨b4, 0, none⟩)]) (args := #[.int .i64 3, .pointer (some ⟨b4, 0, none⟩)]) Tryd.func94 (by kernel_rfl) rfl (hF.tmp 42 rfl) (by simp only [List.map_toArray, List.map_cons, List.map_nil] <;> rfl) rfl) (dtext_calls (bl := b4) _ (hH.rd 17 rfl) (hH.at 4 rfl) hsh 3) rfl rfl ?_
    rintro _ w ⟨rfl, hm_⟩; refine ⟨_, rfl, ?_⟩; clear hF; intro a hF; have hH := hH.same hm_
    clear hS; have hS : SL _ _ := SL.of hH (sub_cons (sub_cons (sub_cons (sub_cons (sub_cons (sub_cons (sub_nil _) 8 rfl) 4 rfl) 2 rfl) 25 rfl) 17 rfl) 901 rfl); refine ⟨hS, ?_⟩
    refine r_take 8 hF rfl rfl rfl (by kernel_rfl) (by kernel_rfl) (by kernel_rfl) (fun _ _ _ h => h) rfl hS (fun w hS => x_buildS (cells := #[.int .i64 (gi (fnd dl 1) 0), .string (strOfNums (fnd dl 2)), .string (strOfNums (fnd dl 3)), .string (strOfNums []), .int .i64 0, .int .u64 0, .int .u64 0, .slice none 0 0]) (places := #[(0, 1), (1, 1), (2, 1), (3, 5)]) Tryd.underlying41 ty41 (by kernel_rfl) (by simp only [List.map_toArray, List.map_cons, List.map_nil, hF.tmp 39 rfl, hF.tmp 41 rfl, hF.tmp 43 rfl] <;> rfl) rfl) rfl ?_; clear hF; intro a hF
    refine r_do 10 rfl (by kernel_rfl) rfl rfl ?_
    refine w_storeA 11 hH ty41 rfl (hF.tmp 11 rfl) (hF.tmp 44 rfl) rfl (by simp [Value.cells, Value.oneCell']) rfl ?_
    clear hH; intro w hH
    clear hS; have hS : SL _ _ := SL.of hH (sub_cons (sub_cons (sub_cons (sub_cons (sub_cons (sub_cons (sub_nil _) 8 rfl) 4 rfl) 2 rfl) 25 rfl) 17 rfl) 901 rfl); refine ⟨hS, ?_⟩
    refine r_end (by kernel_rfl) ?_; clear hS
    exact hJr10 _ _ _ ((((((hF.bare.add hF 11 rfl).add hF 10 rfl).add hF 9 rfl).add hF 8 rfl).add hF 2 rfl).add hF 0 rfl) (hH.sub _ (sub_cons (sub_cons (sub_cons (sub_cons (sub_cons (sub_cons (sub_cons (sub_cons (sub_nil _) 11 rfl) 8 rfl) 25 rfl) 4 rfl) 17 rfl) 2 rfl) 990 rfl) 901 rfl))
end Go.Proofs.YtiiklnghnifmjaaDoor.Act
