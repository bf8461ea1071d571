/- The great sort's pivot. -/
import Derived.Test.YtlcnoibjhmflnaaSrz
import Derived.Test.YtlcnoibjhmflnaaTriA
set_option linter.unusedVariables false
set_option linter.unusedSimpArgs false
namespace Go.Proofs.Ytlcnoibjhmflnaa.Act
open Go.RowKit Go.Proofs.Ytlcnoibjhmflnaa.Sx Go.Sort Go.Proofs.Ytlcnoibjhmflnaa.Cod
set_option maxRecDepth 100000 in
set_option maxHeartbeats 1000000 in
theorem nan_calls (w0 : World) (p : Int) : Calls Try.prog 61 #[.int .u8 p] w0 fun e w' => e = .returned (.bool false) ∧ Mods (fun _ => False) w0 w' := by
  refine calls_of_wp Try.func61 rfl ?_
  have hF := Fr.enter #[.int .u8 p] 6 (slotsOf [.int .u8 p] 0) (Nat.le_of_ble_eq_true rfl) (fun i v h => by have h2 := (get_slotsOf _ 0 i v h).2; simpa only [List.getElem?_toArray, Nat.sub_zero] using h2)
  have hH := Hp.nil (fun _ => False) w0
  rw [Try.ntmps61]
  revert hF; generalize (⟨(#[.int .u8 p] : Array Value) ++ Array.replicate (6 - (#[.int .u8 p] : Array Value).size) undef, []⟩ : Act) = a; intro hF
  refine wp_seq_k fun khK1 hK1 => ?_
  refine wp_region_lit ?_
  refine l_at hF rfl rfl rfl (x_assign rfl) ?_; clear hF; intro a hF
  refine wpList_nil ?_
  refine hK1 _ _ ?_
  refine wp_seq_k fun khK2 hK2 => ?_
  refine wp_region_lit ?_
  refine l_at hF rfl rfl rfl (x_move (hF.tmp 0 rfl)) ?_; clear hF; intro a hF
  refine l_at hF rfl rfl rfl (x_move (hF.tmp 0 rfl)) ?_; clear hF; intro a hF
  refine l_at hF rfl rfl rfl (x_neq (hF.tmp 3 rfl) (hF.tmp 4 rfl)) ?_; clear hF; intro a hF
  rw [decide_eq_true (rfl : p = p)] at hF
  refine l_at hF rfl rfl rfl (x_assign (hF.tmp 5 rfl)) ?_; clear hF; intro a hF
  refine wpList_nil ?_
  refine hK2 _ _ ?_
  refine wp_ret ?_
  try simp only [Exit.then, Exit.inBlock]
  exact fin_ret hF (res1 hF rfl rfl) ⟨rfl, hH.mods⟩

set_option maxRecDepth 100000 in
set_option maxHeartbeats 1000000 in
theorem less_calls (w0 : World) (p q : Int) : Calls Try.prog 51 #[.int .u8 p, .int .u8 q] w0 fun e w' => e = .returned (.bool (decide (p < q))) ∧ Mods (fun _ => False) w0 w' := by
  refine calls_of_wp Try.func51 rfl ?_
  have hF := Fr.enter #[.int .u8 p, .int .u8 q] 17 (slotsOf [.int .u8 p, .int .u8 q] 0) (Nat.le_of_ble_eq_true rfl) (fun i v h => by have h2 := (get_slotsOf _ 0 i v h).2; simpa only [List.getElem?_toArray, Nat.sub_zero] using h2)
  have hH := Hp.nil (fun _ => False) w0
  rw [Try.ntmps51]
  revert hF; generalize (⟨(#[.int .u8 p, .int .u8 q] : Array Value) ++ Array.replicate (17 - (#[.int .u8 p, .int .u8 q] : Array Value).size) undef, []⟩ : Act) = a; intro hF
  refine wp_seq_k fun khK1 hK1 => ?_
  refine wp_region_lit ?_
  refine l_at hF rfl rfl rfl (x_assign rfl) ?_; clear hF; intro a hF
  refine wpList_nil ?_
  refine hK1 _ _ ?_
  refine wp_seq_k fun khK2 hK2 => ?_
  refine wp_region_lit ?_
  refine l_at hF rfl rfl rfl (x_move (hF.tmp 0 rfl)) ?_; clear hF; intro a hF
  refine wpList_plain rfl fun K hK => ?_
  refine w_call hF (x_enter Try.func61 (by kernel_rfl) rfl (by simp only [List.map_toArray, List.map_cons, List.map_nil, hF.tmp 5 rfl] <;> rfl)) (nan_calls _ _) rfl rfl ?_
  rintro _ w ⟨rfl, hm_⟩; refine ⟨_, rfl, ?_⟩; clear hF; intro a hF; have hH := hH.same hm_
  refine hK _ _ ?_; clear hK K
  refine l_at hF rfl rfl rfl (x_move (hF.tmp 6 rfl)) ?_; clear hF; intro a hF
  refine l_offg hF ((wanted_of hF rfl rfl rfl rfl).trans rfl) rfl rfl ?_; clear hF; intro a hF
  refine l_offg hF ((wanted_of hF rfl rfl rfl rfl).trans rfl) rfl rfl ?_; clear hF; intro a hF
  refine l_offg hF ((wanted_of hF rfl rfl rfl rfl).trans rfl) rfl rfl ?_; clear hF; intro a hF
  refine l_at hF rfl rfl rfl (x_pickF (hF.tmp 7 rfl) rfl rfl) ?_; clear hF; intro a hF
  refine l_at hF rfl rfl rfl (x_move (hF.tmp 11 rfl)) ?_; clear hF; intro a hF
  refine l_atg hF ((wanted_of hF rfl rfl rfl rfl).trans rfl) rfl rfl (x_move (hF.tmp 0 rfl)) ?_; clear hF; intro a hF
  refine l_atg hF ((wanted_of hF rfl rfl rfl rfl).trans rfl) rfl rfl (x_move (hF.tmp 1 rfl)) ?_; clear hF; intro a hF
  refine l_atg hF ((wanted_of hF rfl rfl rfl rfl).trans rfl) rfl rfl (x_lss (hF.tmp 13 rfl) (hF.tmp 14 rfl)) ?_; clear hF; intro a hF
  refine l_at hF rfl rfl rfl (x_pickF (hF.tmp 12 rfl) rfl (hF.tmp 15 rfl)) ?_; clear hF; intro a hF
  refine l_at hF rfl rfl rfl (x_assign (hF.tmp 16 rfl)) ?_; clear hF; intro a hF
  refine wpList_nil ?_
  refine hK2 _ _ ?_
  refine wp_ret ?_
  try simp only [Exit.then, Exit.inBlock]
  exact fin_ret hF (res1 hF rfl rfl) ⟨rfl, hH.mods⟩

set_option maxRecDepth 100000 in
set_option maxHeartbeats 1000000 in
theorem order2_calls (w0 : World) {ok : Nat → Prop} {A : Option Addr} {c : Nat} {xs : List Int} (hr : Rd RB w0 ok A xs c) (hok : ∀ k, ok k → k < w0.heap.size) (hlen : xs.length < 1000000000) {x y : Nat} (hx : x < xs.length) (hy : y < xs.length) {sb : Nat} {sv : Int} (hsb : w0.heap[sb]? = some (.cells #[.int .i64 sv] 3 (0, 0))) (hap : ¬ ok sb) : Calls Try.prog 62 #[.slice A xs.length c, .int .i64 (x : Int), .int .i64 (y : Int), .pointer (some ⟨sb, 0, none⟩)] w0 fun e w' => ∃ p q : Nat, e = .returned (.tuple #[.int .i64 (p : Int), .int .i64 (q : Int)]) ∧ (p = x ∧ q = y ∨ p = y ∧ q = x) ∧ Mods (fun k => k = sb) w0 w' ∧ (∃ s2 : Int, w'.heap[sb]? = some (.cells #[.int .i64 s2] 3 (0, 0))) := by
  refine calls_of_wp Try.func62 rfl ?_
  have hF := Fr.enter #[.slice A xs.length c, .int .i64 (x : Int), .int .i64 (y : Int), .pointer (some ⟨sb, 0, none⟩)] 28 (slotsOf [.slice A xs.length c, .int .i64 (x : Int), .int .i64 (y : Int), .pointer (some ⟨sb, 0, none⟩)] 0) (Nat.le_of_ble_eq_true rfl) (fun i v h => by have h2 := (get_slotsOf _ 0 i v h).2; simpa only [List.getElem?_toArray, Nat.sub_zero] using h2)
  rw [Try.ntmps62]
  revert hF; generalize (⟨(#[.slice A xs.length c, .int .i64 (x : Int), .int .i64 (y : Int), .pointer (some ⟨sb, 0, none⟩)] : Array Value) ++ Array.replicate (28 - (#[.slice A xs.length c, .int .i64 (x : Int), .int .i64 (y : Int), .pointer (some ⟨sb, 0, none⟩)] : Array Value).size) undef, []⟩ : Act) = a; intro hF
  have hH := Hp.ownblk 1 hsb
  have hH := hH.arg 900 hr (fun k hk => ⟨hok k hk, fun e => hap (by rw [← show k = sb from e]; exact hk)⟩)
  refine wp_seq_k fun khK1 hK1 => ?_
  refine wp_region_lit ?_
  refine l_at hF rfl rfl rfl (x_assign rfl) ?_; clear hF; intro a hF
  refine l_at hF rfl rfl rfl (x_assign rfl) ?_; clear hF; intro a hF
  refine wpList_nil ?_
  refine hK1 _ _ ?_
  refine wp_seq_k fun khK2 hK2 => ?_
  refine wp_seq_k fun khK3 hK3 => ?_
  refine r_start [(900, .rd_ (.int .u8) A xs c ok)] (by kernel_rfl) hH fun hH => ?_
  have hS : SL [(900, .rd_ (.int .u8) A xs c ok)] _ := SL.of hH (sub_cons (sub_nil _) 900 rfl)
  refine r_take 0 hF rfl rfl rfl (by kernel_rfl) (by kernel_rfl) (by kernel_rfl) (fun _ _ _ h => h) rfl hS (fun w hS => x_move (hF.tmp 0 rfl)) rfl ?_; clear hF; intro a hF
  refine r_take 1 hF rfl rfl rfl (by kernel_rfl) (by kernel_rfl) (by kernel_rfl) (fun _ _ _ h => h) rfl hS (fun w hS => x_move (hF.tmp 2 rfl)) rfl ?_; clear hF; intro a hF
  refine r_take 2 hF rfl rfl rfl (by kernel_rfl) (by kernel_rfl) (by kernel_rfl) (fun _ _ _ h => h) rfl hS (fun w hS => x_iaddr_A Try.underlying72 ty5 ((hH.rd 900 rfl)) (hF.tmp 10 rfl) (hF.tmp 11 rfl) (by omega) (by omega) _) rfl ?_; clear hF; intro a hF
  refine r_take 3 hF rfl rfl rfl (by kernel_rfl) (by kernel_rfl) (by kernel_rfl) (fun _ _ _ h => h) rfl hS (fun w hS => x_load1 ty5 (hF.tmp 12 rfl) (((SL.rd hS 900 rfl)).cellA (gi_some (i := (y : Int)) (by omega) (by omega)))) rfl ?_; clear hF; intro a hF
  refine r_take 4 hF rfl rfl rfl (by kernel_rfl) (by kernel_rfl) (by kernel_rfl) (fun _ _ _ h => h) rfl hS (fun w hS => x_move (hF.tmp 0 rfl)) rfl ?_; clear hF; intro a hF
  refine r_take 5 hF rfl rfl rfl (by kernel_rfl) (by kernel_rfl) (by kernel_rfl) (fun _ _ _ h => h) rfl hS (fun w hS => x_move (hF.tmp 1 rfl)) rfl ?_; clear hF; intro a hF
  refine r_take 6 hF rfl rfl rfl (by kernel_rfl) (by kernel_rfl) (by kernel_rfl) (fun _ _ _ h => h) rfl hS (fun w hS => x_iaddr_A Try.underlying72 ty5 ((hH.rd 900 rfl)) (hF.tmp 14 rfl) (hF.tmp 15 rfl) (by omega) (by omega) _) rfl ?_; clear hF; intro a hF
  refine r_take 7 hF rfl rfl rfl (by kernel_rfl) (by kernel_rfl) (by kernel_rfl) (fun _ _ _ h => h) rfl hS (fun w hS => x_load1 ty5 (hF.tmp 16 rfl) (((SL.rd hS 900 rfl)).cellA (gi_some (i := (x : Int)) (by omega) (by omega)))) rfl ?_; clear hF; intro a hF
  refine r_do 8 rfl (by kernel_rfl) rfl rfl ?_
  refine w_call hF (x_enter Try.func51 (by kernel_rfl) rfl (by simp only [List.map_toArray, List.map_cons, List.map_nil, hF.tmp 13 rfl, hF.tmp 17 rfl] <;> rfl)) (less_calls _ _ _) rfl rfl ?_
  rintro _ w ⟨rfl, hm_⟩; refine ⟨_, rfl, ?_⟩; clear hF; intro a hF; have hH := hH.same hm_
  clear hS; have hS : SL _ _ := SL.of hH (sub_cons (sub_nil _) 900 rfl); refine ⟨hS, ?_⟩
  refine r_end (by kernel_rfl) ?_; clear hS
  refine hK3 _ _ ?_
  refine wp_cond_split (hF.tmp 18 rfl) (fun hc18 => ?_) (fun hc18 => ?_)
  · have hk18_1 := hc18; try simp only [Bool.or_eq_true, Bool.and_eq_true, Bool.or_eq_false_iff, Bool.and_eq_false_iff, Bool.not_eq_true', Bool.not_eq_false', decide_eq_true_eq, decide_eq_false_iff_not, Bool.not_true, Bool.not_false] at hc18
    refine wp_seq_k fun khK4 hK4 => ?_
    refine wp_region_lit ?_
    refine l_at hF rfl rfl rfl (x_move (hF.tmp 3 rfl)) ?_; clear hF; intro a hF
    refine l_at hF rfl rfl rfl (x_nil (hF.tmp 19 rfl)) ?_; clear hF; intro a hF
    refine l_at hF rfl rfl rfl (x_load1 ty3 (hF.tmp 20 rfl) (blk_cell (hH.at 1 rfl) 0 rfl)) ?_; clear hF; intro a hF
    refine l_at hF rfl rfl rfl (x_add (hF.tmp 21 rfl) rfl rfl) ?_; clear hF; intro a hF
    refine l_at hF rfl rfl rfl (x_nil (hF.tmp 19 rfl)) ?_; clear hF; intro a hF
    refine wpList_plain rfl fun K hK => ?_
    refine w_store 1 hH ty3 rfl (hF.tmp 23 rfl) (hF.tmp 22 rfl) rfl (one1 rfl rfl) (by first | decide | exact Nat.le_of_ble_eq_true rfl) ?_
    clear hH; intro w hH
    refine hK _ _ ?_; clear hK K
    refine wpList_nil ?_
    refine hK4 _ _ ?_
    refine wp_seq_k fun khK5 hK5 => ?_
    refine wp_region_lit ?_
    refine l_at hF rfl rfl rfl (x_move (hF.tmp 2 rfl)) ?_; clear hF; intro a hF
    refine l_at hF rfl rfl rfl (x_move (hF.tmp 1 rfl)) ?_; clear hF; intro a hF
    refine l_at hF rfl rfl rfl (x_assign (hF.tmp 24 rfl)) ?_; clear hF; intro a hF
    refine l_at hF rfl rfl rfl (x_assign (hF.tmp 25 rfl)) ?_; clear hF; intro a hF
    refine wpList_nil ?_
    refine hK5 _ _ ?_
    refine wp_ret ?_
    try simp only [Exit.then, Exit.inBlock]
    exact fin_ret hF (res2 hF rfl rfl rfl) ⟨_, _, rfl, .inr ⟨rfl, rfl⟩, hH.mods, _, hH.at 1 rfl⟩
  · have hk18_2 := hc18; try simp only [Bool.or_eq_true, Bool.and_eq_true, Bool.or_eq_false_iff, Bool.and_eq_false_iff, Bool.not_eq_true', Bool.not_eq_false', decide_eq_true_eq, decide_eq_false_iff_not, Bool.not_true, Bool.not_false] at hc18
    refine wp_skip ?_
    refine hK2 _ _ ?_
    refine wp_seq_k fun khK6 hK6 => ?_
    refine wp_region_lit ?_
    refine l_at hF rfl rfl rfl (x_move (hF.tmp 1 rfl)) ?_; clear hF; intro a hF
    refine l_at hF rfl rfl rfl (x_move (hF.tmp 2 rfl)) ?_; clear hF; intro a hF
    refine l_at hF rfl rfl rfl (x_assign (hF.tmp 26 rfl)) ?_; clear hF; intro a hF
    refine l_at hF rfl rfl rfl (x_assign (hF.tmp 27 rfl)) ?_; clear hF; intro a hF
    refine wpList_nil ?_
    refine hK6 _ _ ?_
    refine wp_ret ?_
    try simp only [Exit.then, Exit.inBlock]
    exact fin_ret hF (res2 hF rfl rfl rfl) ⟨_, _, rfl, .inl ⟨rfl, rfl⟩, hH.mods, _, hH.at 1 rfl⟩

set_option maxRecDepth 100000 in
set_option maxHeartbeats 1000000 in
theorem median_calls (w0 : World) {ok : Nat → Prop} {A : Option Addr} {c : Nat} {xs : List Int} (hr : Rd RB w0 ok A xs c) (hok : ∀ k, ok k → k < w0.heap.size) (hlen : xs.length < 1000000000) {x y z : Nat} (hx : x < xs.length) (hy : y < xs.length) (hz : z < xs.length) {sb : Nat} {sv : Int} (hsb : w0.heap[sb]? = some (.cells #[.int .i64 sv] 3 (0, 0))) (hap : ¬ ok sb) : Calls Try.prog 60 #[.slice A xs.length c, .int .i64 (x : Int), .int .i64 (y : Int), .int .i64 (z : Int), .pointer (some ⟨sb, 0, none⟩)] w0 fun e w' => ∃ p : Nat, e = .returned (.int .i64 (p : Int)) ∧ (p = x ∨ p = y ∨ p = z) ∧ Mods (fun k => k = sb) w0 w' ∧ (∃ s2 : Int, w'.heap[sb]? = some (.cells #[.int .i64 s2] 3 (0, 0))) := by
  refine calls_of_wp Try.func60 rfl ?_
  have hF := Fr.enter #[.slice A xs.length c, .int .i64 (x : Int), .int .i64 (y : Int), .int .i64 (z : Int), .pointer (some ⟨sb, 0, none⟩)] 36 (slotsOf [.slice A xs.length c, .int .i64 (x : Int), .int .i64 (y : Int), .int .i64 (z : Int), .pointer (some ⟨sb, 0, none⟩)] 0) (Nat.le_of_ble_eq_true rfl) (fun i v h => by have h2 := (get_slotsOf _ 0 i v h).2; simpa only [List.getElem?_toArray, Nat.sub_zero] using h2)
  rw [Try.ntmps60]
  revert hF; generalize (⟨(#[.slice A xs.length c, .int .i64 (x : Int), .int .i64 (y : Int), .int .i64 (z : Int), .pointer (some ⟨sb, 0, none⟩)] : Array Value) ++ Array.replicate (36 - (#[.slice A xs.length c, .int .i64 (x : Int), .int .i64 (y : Int), .int .i64 (z : Int), .pointer (some ⟨sb, 0, none⟩)] : Array Value).size) undef, []⟩ : Act) = a; intro hF
  have hH := Hp.ownblk 1 hsb
  have hH := hH.arg 900 hr (fun k hk => ⟨hok k hk, fun e => hap (by rw [← show k = sb from e]; exact hk)⟩)
  refine wp_seq_k fun khK1 hK1 => ?_
  refine wp_region_lit ?_
  refine l_at hF rfl rfl rfl (x_assign rfl) ?_; clear hF; intro a hF
  refine wpList_nil ?_
  refine hK1 _ _ ?_
  refine wp_seq_k fun khK2 hK2 => ?_
  refine wp_region_lit ?_
  refine l_at hF rfl rfl rfl (x_move (hF.tmp 0 rfl)) ?_; clear hF; intro a hF
  refine l_at hF rfl rfl rfl (x_move (hF.tmp 1 rfl)) ?_; clear hF; intro a hF
  refine l_at hF rfl rfl rfl (x_move (hF.tmp 2 rfl)) ?_; clear hF; intro a hF
  refine l_at hF rfl rfl rfl (x_move (hF.tmp 4 rfl)) ?_; clear hF; intro a hF
  refine wpList_plain rfl fun K hK => ?_
  refine w_call hF (x_enter Try.func62 (by kernel_rfl) rfl (by simp only [List.map_toArray, List.map_cons, List.map_nil, hF.tmp 12 rfl, hF.tmp 13 rfl, hF.tmp 14 rfl, hF.tmp 15 rfl] <;> rfl)) (order2_calls _ (hH.rd 900 rfl) (fun k hk => hH.inb 900 _ rfl k (.inr hk)) hlen (by omega) (by omega) (hH.at 1 rfl) hap) rfl rfl ?_
  rintro _ w ⟨n1_0, n1_1, rfl, ho1, hm_, s1, hb_⟩; refine ⟨_, rfl, ?_⟩; clear hF; intro a hF; have hH := hH.put 1 rfl _ hm_ hb_
  refine hK _ _ ?_; clear hK K
  refine l_at hF rfl rfl rfl (x_move (hF.tmp 16 rfl)) ?_; clear hF; intro a hF
  refine l_at hF rfl rfl rfl (x_extract (hF.tmp 11 rfl) rfl) ?_; clear hF; intro a hF
  refine l_at hF rfl rfl rfl (x_extract (hF.tmp 11 rfl) rfl) ?_; clear hF; intro a hF
  refine l_at hF rfl rfl rfl (x_assign (hF.tmp 17 rfl)) ?_; clear hF; intro a hF
  refine l_at hF rfl rfl rfl (x_assign (hF.tmp 18 rfl)) ?_; clear hF; intro a hF
  refine wpList_nil ?_
  refine hK2 _ _ ?_
  refine wp_seq_k fun khK3 hK3 => ?_
  refine wp_region_lit ?_
  refine l_at hF rfl rfl rfl (x_move (hF.tmp 0 rfl)) ?_; clear hF; intro a hF
  refine l_at hF rfl rfl rfl (x_move (hF.tmp 2 rfl)) ?_; clear hF; intro a hF
  refine l_at hF rfl rfl rfl (x_move (hF.tmp 3 rfl)) ?_; clear hF; intro a hF
  refine l_at hF rfl rfl rfl (x_move (hF.tmp 4 rfl)) ?_; clear hF; intro a hF
  refine wpList_plain rfl fun K hK => ?_
  refine w_call hF (x_enter Try.func62 (by kernel_rfl) rfl (by simp only [List.map_toArray, List.map_cons, List.map_nil, hF.tmp 20 rfl, hF.tmp 21 rfl, hF.tmp 22 rfl, hF.tmp 23 rfl] <;> rfl)) (order2_calls _ (hH.rd 900 rfl) (fun k hk => hH.inb 900 _ rfl k (.inr hk)) hlen (by omega) (by omega) (hH.at 1 rfl) hap) rfl rfl ?_
  rintro _ w ⟨n2_0, n2_1, rfl, ho2, hm_, s2, hb_⟩; refine ⟨_, rfl, ?_⟩; clear hF; intro a hF; have hH := hH.put 1 rfl _ hm_ hb_
  refine hK _ _ ?_; clear hK K
  refine l_at hF rfl rfl rfl (x_move (hF.tmp 24 rfl)) ?_; clear hF; intro a hF
  refine l_at hF rfl rfl rfl (x_extract (hF.tmp 19 rfl) rfl) ?_; clear hF; intro a hF
  refine l_at hF rfl rfl rfl (x_extract (hF.tmp 19 rfl) rfl) ?_; clear hF; intro a hF
  refine l_at hF rfl rfl rfl (x_assign (hF.tmp 25 rfl)) ?_; clear hF; intro a hF
  refine l_at hF rfl rfl rfl (x_assign (hF.tmp 26 rfl)) ?_; clear hF; intro a hF
  refine wpList_nil ?_
  refine hK3 _ _ ?_
  refine wp_seq_k fun khK4 hK4 => ?_
  refine wp_region_lit ?_
  refine l_at hF rfl rfl rfl (x_move (hF.tmp 0 rfl)) ?_; clear hF; intro a hF
  refine l_at hF rfl rfl rfl (x_move (hF.tmp 1 rfl)) ?_; clear hF; intro a hF
  refine l_at hF rfl rfl rfl (x_move (hF.tmp 2 rfl)) ?_; clear hF; intro a hF
  refine l_at hF rfl rfl rfl (x_move (hF.tmp 4 rfl)) ?_; clear hF; intro a hF
  refine wpList_plain rfl fun K hK => ?_
  refine w_call hF (x_enter Try.func62 (by kernel_rfl) rfl (by simp only [List.map_toArray, List.map_cons, List.map_nil, hF.tmp 28 rfl, hF.tmp 29 rfl, hF.tmp 30 rfl, hF.tmp 31 rfl] <;> rfl)) (order2_calls _ (hH.rd 900 rfl) (fun k hk => hH.inb 900 _ rfl k (.inr hk)) hlen (by omega) (by omega) (hH.at 1 rfl) hap) rfl rfl ?_
  rintro _ w ⟨n3_0, n3_1, rfl, ho3, hm_, s3, hb_⟩; refine ⟨_, rfl, ?_⟩; clear hF; intro a hF; have hH := hH.put 1 rfl _ hm_ hb_
  refine hK _ _ ?_; clear hK K
  refine l_at hF rfl rfl rfl (x_move (hF.tmp 32 rfl)) ?_; clear hF; intro a hF
  refine l_at hF rfl rfl rfl (x_extract (hF.tmp 27 rfl) rfl) ?_; clear hF; intro a hF
  refine l_at hF rfl rfl rfl (x_extract (hF.tmp 27 rfl) rfl) ?_; clear hF; intro a hF
  refine l_at hF rfl rfl rfl (x_assign (hF.tmp 33 rfl)) ?_; clear hF; intro a hF
  refine l_at hF rfl rfl rfl (x_assign (hF.tmp 34 rfl)) ?_; clear hF; intro a hF
  refine wpList_nil ?_
  refine hK4 _ _ ?_
  refine wp_seq_k fun khK5 hK5 => ?_
  refine wp_region_lit ?_
  refine l_at hF rfl rfl rfl (x_move (hF.tmp 2 rfl)) ?_; clear hF; intro a hF
  refine l_at hF rfl rfl rfl (x_assign (hF.tmp 35 rfl)) ?_; clear hF; intro a hF
  refine wpList_nil ?_
  refine hK5 _ _ ?_
  refine wp_ret ?_
  try simp only [Exit.then, Exit.inBlock]
  exact fin_ret hF (res1 hF rfl rfl) ⟨_, rfl, by omega, hH.mods, _, hH.at 1 rfl⟩

set_option maxRecDepth 100000 in
set_option maxHeartbeats 1000000 in
theorem medadj_calls (w0 : World) {ok : Nat → Prop} {A : Option Addr} {c : Nat} {xs : List Int} (hr : Rd RB w0 ok A xs c) (hok : ∀ k, ok k → k < w0.heap.size) (hlen : xs.length < 1000000000) {x : Nat} (hx0 : 1 ≤ x) (hx : x + 1 < xs.length) {sb : Nat} {sv : Int} (hsb : w0.heap[sb]? = some (.cells #[.int .i64 sv] 3 (0, 0))) (hap : ¬ ok sb) : Calls Try.prog 59 #[.slice A xs.length c, .int .i64 (x : Int), .pointer (some ⟨sb, 0, none⟩)] w0 fun e w' => ∃ p : Nat, e = .returned (.int .i64 (p : Int)) ∧ p ≤ x + 1 ∧ x ≤ p + 1 ∧ Mods (fun k => k = sb) w0 w' ∧ (∃ s2 : Int, w'.heap[sb]? = some (.cells #[.int .i64 s2] 3 (0, 0))) := by
  refine calls_of_wp Try.func59 rfl ?_
  have hF := Fr.enter #[.slice A xs.length c, .int .i64 (x : Int), .pointer (some ⟨sb, 0, none⟩)] 15 (slotsOf [.slice A xs.length c, .int .i64 (x : Int), .pointer (some ⟨sb, 0, none⟩)] 0) (Nat.le_of_ble_eq_true rfl) (fun i v h => by have h2 := (get_slotsOf _ 0 i v h).2; simpa only [List.getElem?_toArray, Nat.sub_zero] using h2)
  rw [Try.ntmps59]
  revert hF; generalize (⟨(#[.slice A xs.length c, .int .i64 (x : Int), .pointer (some ⟨sb, 0, none⟩)] : Array Value) ++ Array.replicate (15 - (#[.slice A xs.length c, .int .i64 (x : Int), .pointer (some ⟨sb, 0, none⟩)] : Array Value).size) undef, []⟩ : Act) = a; intro hF
  have hH := Hp.ownblk 1 hsb
  have hH := hH.arg 900 hr (fun k hk => ⟨hok k hk, fun e => hap (by rw [← show k = sb from e]; exact hk)⟩)
  refine wp_seq_k fun khK1 hK1 => ?_
  refine wp_region_lit ?_
  refine l_at hF rfl rfl rfl (x_assign rfl) ?_; clear hF; intro a hF
  refine wpList_nil ?_
  refine hK1 _ _ ?_
  refine wp_seq_k fun khK2 hK2 => ?_
  refine wp_region_lit ?_
  refine l_at hF rfl rfl rfl (x_move (hF.tmp 0 rfl)) ?_; clear hF; intro a hF
  refine l_at hF rfl rfl rfl (x_move (hF.tmp 1 rfl)) ?_; clear hF; intro a hF
  refine l_at hF rfl rfl rfl (x_sub (hF.tmp 8 rfl) rfl (show IntKind.i64.wrap _ = ((x - 1 : Nat) : Int) from by rw [w64 (by omega) (by omega)] <;> omega)) ?_; clear hF; intro a hF
  refine l_at hF rfl rfl rfl (x_move (hF.tmp 1 rfl)) ?_; clear hF; intro a hF
  refine l_at hF rfl rfl rfl (x_move (hF.tmp 1 rfl)) ?_; clear hF; intro a hF
  refine l_at hF rfl rfl rfl (x_add (hF.tmp 11 rfl) rfl (show IntKind.i64.wrap _ = ((x + 1 : Nat) : Int) from by rw [w64 (by omega) (by omega)] <;> omega)) ?_; clear hF; intro a hF
  refine l_at hF rfl rfl rfl (x_move (hF.tmp 2 rfl)) ?_; clear hF; intro a hF
  refine wpList_plain rfl fun K hK => ?_
  refine w_call hF (x_enter Try.func60 (by kernel_rfl) rfl (by simp only [List.map_toArray, List.map_cons, List.map_nil, hF.tmp 7 rfl, hF.tmp 9 rfl, hF.tmp 10 rfl, hF.tmp 12 rfl, hF.tmp 13 rfl] <;> rfl)) (median_calls _ (hH.rd 900 rfl) (fun k hk => hH.inb 900 _ rfl k (.inr hk)) hlen (by omega) (by omega) (by omega) (hH.at 1 rfl) hap) rfl rfl ?_
  rintro _ w ⟨n1_0, rfl, ho1, hm_, s1, hb_⟩; refine ⟨_, rfl, ?_⟩; clear hF; intro a hF; have hH := hH.put 1 rfl _ hm_ hb_
  refine hK _ _ ?_; clear hK K
  refine l_at hF rfl rfl rfl (x_assign (hF.tmp 14 rfl)) ?_; clear hF; intro a hF
  refine wpList_nil ?_
  refine hK2 _ _ ?_
  refine wp_ret ?_
  try simp only [Exit.then, Exit.inBlock]
  exact fin_ret hF (res1 hF rfl rfl) ⟨_, rfl, by omega, by omega, hH.mods, _, hH.at 1 rfl⟩

set_option maxRecDepth 100000 in
set_option maxHeartbeats 1000000 in
theorem pivot0_calls (w0 : World) {ok : Nat → Prop} {A : Option Addr} {c : Nat} {xs : List Int} (hr : Rd RB w0 ok A xs c) (hok : ∀ k, ok k → k < w0.heap.size) (hlen : xs.length < 1000000000) {x y : Nat} (hxy : x < y) (hy : y ≤ xs.length) : Calls Try.prog 48 #[.slice A xs.length c, .int .i64 (x : Int), .int .i64 (y : Int)] w0 fun e w' => ∃ (p : Nat) (h : Int), e = .returned (.tuple #[.int .i64 (p : Int), .int .i64 h]) ∧ x ≤ p ∧ p < y ∧ Mods (fun _ => False) w0 w' := by
  refine calls_of_wp Try.func48 rfl ?_
  have hF := Fr.enter #[.slice A xs.length c, .int .i64 (x : Int), .int .i64 (y : Int)] 57 (slotsOf [.slice A xs.length c, .int .i64 (x : Int), .int .i64 (y : Int)] 0) (Nat.le_of_ble_eq_true rfl) (fun i v h => by have h2 := (get_slotsOf _ 0 i v h).2; simpa only [List.getElem?_toArray, Nat.sub_zero] using h2)
  rw [Try.ntmps48]
  revert hF; generalize (⟨(#[.slice A xs.length c, .int .i64 (x : Int), .int .i64 (y : Int)] : Array Value) ++ Array.replicate (57 - (#[.slice A xs.length c, .int .i64 (x : Int), .int .i64 (y : Int)] : Array Value).size) undef, []⟩ : Act) = a; intro hF
  have hH := Hp.nil (fun _ => False) w0
  have hH := hH.arg 900 hr (fun k hk => ⟨hok k hk, fun h => h⟩)
  refine wp_seq_k fun khK1 hK1 => ?_
  refine wp_region_lit ?_
  refine l_at hF rfl rfl rfl (x_assign rfl) ?_; clear hF; intro a hF
  refine l_at hF rfl rfl rfl (x_assign rfl) ?_; clear hF; intro a hF
  refine wpList_nil ?_
  refine hK1 _ _ ?_
  refine wp_seq_k fun khK2 hK2 => ?_
  refine wp_region_lit ?_
  refine l_at hF rfl rfl rfl (x_move (hF.tmp 2 rfl)) ?_; clear hF; intro a hF
  refine l_at hF rfl rfl rfl (x_move (hF.tmp 1 rfl)) ?_; clear hF; intro a hF
  refine l_at hF rfl rfl rfl (x_sub (hF.tmp 13 rfl) (hF.tmp 14 rfl) (show IntKind.i64.wrap _ = ((y - x : Nat) : Int) from by rw [w64 (by omega) (by omega)] <;> omega)) ?_; clear hF; intro a hF
  refine l_at hF rfl rfl rfl (x_assign (hF.tmp 15 rfl)) ?_; clear hF; intro a hF
  refine wpList_nil ?_
  refine hK2 _ _ ?_
  refine wp_seq_k fun khK3 hK3 => ?_
  refine wp_region_lit ?_
  refine wpList_plain rfl fun K hK => ?_
  refine w_alloc 1 hF hH rfl ty3 ?_
  clear hF hH; intro a w b9 hF hH
  refine hK _ _ ?_; clear hK K
  refine wpList_nil ?_
  refine hK3 _ _ ?_
  refine wp_seq_k fun khK4 hK4 => ?_
  refine wp_region_lit ?_
  refine l_at hF rfl rfl rfl (x_move (hF.tmp 1 rfl)) ?_; clear hF; intro a hF
  refine l_at hF rfl rfl rfl (x_move (hF.tmp 8 rfl)) ?_; clear hF; intro a hF
  refine l_at hF rfl rfl rfl (x_quo (hF.tmp 17 rfl) rfl (by omega) (show IntKind.i64.wrap _ = (((y - x) / 4 : Nat) : Int) from quoN (y - x) 4 (by decide) (by omega) (by decide))) ?_; clear hF; intro a hF
  refine l_at hF rfl rfl rfl (x_mul (hF.tmp 18 rfl) rfl (show IntKind.i64.wrap _ = ((((y - x) / 4) * 1 : Nat) : Int) from by rw [w64 (by omega) (by omega)] <;> omega)) ?_; clear hF; intro a hF
  refine l_at hF rfl rfl rfl (x_add (hF.tmp 16 rfl) (hF.tmp 19 rfl) (show IntKind.i64.wrap _ = ((x + (((y - x) / 4) * 1) : Nat) : Int) from by rw [w64 (by omega) (by omega)] <;> omega)) ?_; clear hF; intro a hF
  refine l_at hF rfl rfl rfl (x_assign (hF.tmp 20 rfl)) ?_; clear hF; intro a hF
  refine wpList_nil ?_
  refine hK4 _ _ ?_
  refine wp_seq_k fun khK5 hK5 => ?_
  refine wp_region_lit ?_
  refine l_at hF rfl rfl rfl (x_move (hF.tmp 1 rfl)) ?_; clear hF; intro a hF
  refine l_at hF rfl rfl rfl (x_move (hF.tmp 8 rfl)) ?_; clear hF; intro a hF
  refine l_at hF rfl rfl rfl (x_quo (hF.tmp 22 rfl) rfl (by omega) (show IntKind.i64.wrap _ = (((y - x) / 4 : Nat) : Int) from quoN (y - x) 4 (by decide) (by omega) (by decide))) ?_; clear hF; intro a hF
  refine l_at hF rfl rfl rfl (x_mul (hF.tmp 23 rfl) rfl (show IntKind.i64.wrap _ = ((((y - x) / 4) * 2 : Nat) : Int) from by rw [w64 (by omega) (by omega)] <;> omega)) ?_; clear hF; intro a hF
  refine l_at hF rfl rfl rfl (x_add (hF.tmp 21 rfl) (hF.tmp 24 rfl) (show IntKind.i64.wrap _ = ((x + (((y - x) / 4) * 2) : Nat) : Int) from by rw [w64 (by omega) (by omega)] <;> omega)) ?_; clear hF; intro a hF
  refine l_at hF rfl rfl rfl (x_assign (hF.tmp 25 rfl)) ?_; clear hF; intro a hF
  refine wpList_nil ?_
  refine hK5 _ _ ?_
  refine wp_seq_k fun khK6 hK6 => ?_
  refine wp_region_lit ?_
  refine l_at hF rfl rfl rfl (x_move (hF.tmp 1 rfl)) ?_; clear hF; intro a hF
  refine l_at hF rfl rfl rfl (x_move (hF.tmp 8 rfl)) ?_; clear hF; intro a hF
  refine l_at hF rfl rfl rfl (x_quo (hF.tmp 27 rfl) rfl (by omega) (show IntKind.i64.wrap _ = (((y - x) / 4 : Nat) : Int) from quoN (y - x) 4 (by decide) (by omega) (by decide))) ?_; clear hF; intro a hF
  refine l_at hF rfl rfl rfl (x_mul (hF.tmp 28 rfl) rfl (show IntKind.i64.wrap _ = ((((y - x) / 4) * 3 : Nat) : Int) from by rw [w64 (by omega) (by omega)] <;> omega)) ?_; clear hF; intro a hF
  refine l_at hF rfl rfl rfl (x_add (hF.tmp 26 rfl) (hF.tmp 29 rfl) (show IntKind.i64.wrap _ = ((x + (((y - x) / 4) * 3) : Nat) : Int) from by rw [w64 (by omega) (by omega)] <;> omega)) ?_; clear hF; intro a hF
  refine l_at hF rfl rfl rfl (x_assign (hF.tmp 30 rfl)) ?_; clear hF; intro a hF
  refine wpList_nil ?_
  refine hK6 _ _ ?_
  refine wp_seq_k fun khK7 hK7 => ?_
  refine wp_seq_k fun khK8 hK8 => ?_
  refine wp_region_lit ?_
  refine l_at hF rfl rfl rfl (x_move (hF.tmp 8 rfl)) ?_; clear hF; intro a hF
  refine l_at hF rfl rfl rfl (x_geq (hF.tmp 31 rfl) rfl) ?_; clear hF; intro a hF
  refine wpList_nil ?_
  refine hK8 _ _ ?_
  have hJ32 : ∀ a w, ∀ ky : Nat, ∀ ks : Int, (x ≤ ky) → (ky < y) → Fr 57 a [(9, .pointer (some ⟨b9, 0, none⟩)), (11, .int .i64 (ky : Int))] → Hp (fun _ => False) w0 w [(900, .rd_ (.int .u8) A xs c ok), (1, .blk b9 (.cells #[.int .i64 ks] 3 (0, 0)))] → khK7 a w := by
    intro a w ky ks hj32_0 hj32_1 hF hH
    refine hK7 a w ?_
    refine wp_seq_k fun khK9 hK9 => ?_
    refine wp_region_lit ?_
    refine l_at hF rfl rfl rfl (x_load1 ty3 (hF.tmp 9 rfl) (blk_cell (hH.at 1 rfl) 0 rfl)) ?_; clear hF; intro a hF
    refine wpList_nil ?_
    refine hK9 _ _ ?_
    refine wp_block ?_
    refine wp_seq_k fun khK10 hK10 => ?_
    refine wp_region_lit ?_
    refine l_at hF rfl rfl rfl (x_eql (hF.tmp 49 rfl) rfl) ?_; clear hF; intro a hF
    refine l_at hF rfl rfl rfl (x_assign (hF.tmp 52 rfl)) ?_; clear hF; intro a hF
    refine wpList_nil ?_
    refine hK10 _ _ ?_
    refine wp_cond_split (hF.tmp 51 rfl) (fun hc51 => ?_) (fun hc51 => ?_)
    · have hk51_1 := hc51; try simp only [Bool.or_eq_true, Bool.and_eq_true, Bool.or_eq_false_iff, Bool.and_eq_false_iff, Bool.not_eq_true', Bool.not_eq_false', decide_eq_true_eq, decide_eq_false_iff_not, Bool.not_true, Bool.not_false] at hc51
      refine wp_seq_k fun khK11 hK11 => ?_
      refine wp_region_lit ?_
      refine l_at hF rfl rfl rfl (x_move (hF.tmp 11 rfl)) ?_; clear hF; intro a hF
      refine l_at hF rfl rfl rfl (x_assign (hF.tmp 53 rfl)) ?_; clear hF; intro a hF
      refine l_at hF rfl rfl rfl (x_assign rfl) ?_; clear hF; intro a hF
      refine wpList_nil ?_
      refine hK11 _ _ ?_
      refine wp_ret ?_
      try simp only [Exit.then, Exit.inBlock]
      exact fin_ret hF (res2 hF rfl rfl rfl) ⟨_, _, rfl, by omega, by omega, hH.mods⟩
    · have hk51_2 := hc51; try simp only [Bool.or_eq_true, Bool.and_eq_true, Bool.or_eq_false_iff, Bool.and_eq_false_iff, Bool.not_eq_true', Bool.not_eq_false', decide_eq_true_eq, decide_eq_false_iff_not, Bool.not_true, Bool.not_false] at hc51
      refine wp_seq_k fun khK12 hK12 => ?_
      refine wp_region_lit ?_
      refine l_at hF rfl rfl rfl (x_eql (hF.tmp 49 rfl) rfl) ?_; clear hF; intro a hF
      refine l_at hF rfl rfl rfl (x_assign (hF.tmp 55 rfl)) ?_; clear hF; intro a hF
      refine wpList_nil ?_
      refine hK12 _ _ ?_
      refine wp_cond_split (hF.tmp 54 rfl) (fun hc54 => ?_) (fun hc54 => ?_)
      · have hk54_3 := hc54; try simp only [Bool.or_eq_true, Bool.and_eq_true, Bool.or_eq_false_iff, Bool.and_eq_false_iff, Bool.not_eq_true', Bool.not_eq_false', decide_eq_true_eq, decide_eq_false_iff_not, Bool.not_true, Bool.not_false] at hc54
        refine wp_seq_k fun khK13 hK13 => ?_
        refine wp_region_lit ?_
        refine l_at hF rfl rfl rfl (x_move (hF.tmp 11 rfl)) ?_; clear hF; intro a hF
        refine l_at hF rfl rfl rfl (x_assign (hF.tmp 56 rfl)) ?_; clear hF; intro a hF
        refine l_at hF rfl rfl rfl (x_assign rfl) ?_; clear hF; intro a hF
        refine wpList_nil ?_
        refine hK13 _ _ ?_
        refine wp_ret ?_
        try simp only [Exit.then, Exit.inBlock]
        exact fin_ret hF (res2 hF rfl rfl rfl) ⟨_, _, rfl, by omega, by omega, hH.mods⟩
      · have hk54_4 := hc54; try simp only [Bool.or_eq_true, Bool.and_eq_true, Bool.or_eq_false_iff, Bool.and_eq_false_iff, Bool.not_eq_true', Bool.not_eq_false', decide_eq_true_eq, decide_eq_false_iff_not, Bool.not_true, Bool.not_false] at hc54
        refine wp_seq_k fun khK14 hK14 => ?_
        refine wp_region_lit ?_
        refine l_at hF rfl rfl rfl (x_move (hF.tmp 11 rfl)) ?_; clear hF; intro a hF
        refine l_at hF rfl rfl rfl (x_assign (hF.tmp 50 rfl)) ?_; clear hF; intro a hF
        refine l_at hF rfl rfl rfl (x_assign rfl) ?_; clear hF; intro a hF
        refine wpList_nil ?_
        refine hK14 _ _ ?_
        refine wp_ret ?_
        try simp only [Exit.then, Exit.inBlock]
        exact fin_ret hF (res2 hF rfl rfl rfl) ⟨_, _, rfl, by omega, by omega, hH.mods⟩
  refine wp_cond_split (hF.tmp 32 rfl) (fun hc32 => ?_) (fun hc32 => ?_)
  · have hk32_5 := hc32; try simp only [Bool.or_eq_true, Bool.and_eq_true, Bool.or_eq_false_iff, Bool.and_eq_false_iff, Bool.not_eq_true', Bool.not_eq_false', decide_eq_true_eq, decide_eq_false_iff_not, Bool.not_true, Bool.not_false] at hc32
    refine wp_seq_k fun khK15 hK15 => ?_
    refine wp_seq_k fun khK16 hK16 => ?_
    refine wp_region_lit ?_
    refine l_at hF rfl rfl rfl (x_move (hF.tmp 8 rfl)) ?_; clear hF; intro a hF
    refine l_at hF rfl rfl rfl (x_geq (hF.tmp 33 rfl) rfl) ?_; clear hF; intro a hF
    refine wpList_nil ?_
    refine hK16 _ _ ?_
    have hJ34 : ∀ a w, ∀ jx : Nat, ∀ jy : Nat, ∀ jz : Nat, ∀ js : Int, (x ≤ jx) → (jx < y) → (x ≤ jy) → (jy < y) → (x ≤ jz) → (jz < y) → Fr 57 a [(0, .slice A xs.length c), (9, .pointer (some ⟨b9, 0, none⟩)), (10, .int .i64 (jx : Int)), (11, .int .i64 (jy : Int)), (12, .int .i64 (jz : Int))] → Hp (fun _ => False) w0 w [(900, .rd_ (.int .u8) A xs c ok), (1, .blk b9 (.cells #[.int .i64 js] 3 (0, 0)))] → khK15 a w := by
      intro a w jx jy jz js hj34_0 hj34_1 hj34_2 hj34_3 hj34_4 hj34_5 hF hH
      refine hK15 a w ?_
      refine wp_region_lit ?_
      refine l_at hF rfl rfl rfl (x_move (hF.tmp 0 rfl)) ?_; clear hF; intro a hF
      refine l_at hF rfl rfl rfl (x_move (hF.tmp 10 rfl)) ?_; clear hF; intro a hF
      refine l_at hF rfl rfl rfl (x_move (hF.tmp 11 rfl)) ?_; clear hF; intro a hF
      refine l_at hF rfl rfl rfl (x_move (hF.tmp 12 rfl)) ?_; clear hF; intro a hF
      refine wpList_plain rfl fun K hK => ?_
      refine w_call hF (x_enter Try.func60 (by kernel_rfl) rfl (by simp only [List.map_toArray, List.map_cons, List.map_nil, hF.tmp 44 rfl, hF.tmp 45 rfl, hF.tmp 46 rfl, hF.tmp 47 rfl, hF.tmp 9 rfl] <;> rfl)) (median_calls _ (hH.rd 900 rfl) (fun k hk => hH.inb 900 _ rfl k (.inr hk)) hlen (by omega) (by omega) (by omega) (hH.at 1 rfl) (fun h => by have h1 := hok _ h; have h2 := (hH.mine 1 _ rfl b9 rfl).resolve_left (fun h => h); omega)) rfl rfl ?_
      rintro _ w ⟨n4_0, rfl, hm4, hm_, s4, hb_⟩; refine ⟨_, rfl, ?_⟩; clear hF; intro a hF; have hH := hH.put 1 rfl _ hm_ hb_
      refine hK _ _ ?_; clear hK K
      refine l_at hF rfl rfl rfl (x_assign (hF.tmp 48 rfl)) ?_; clear hF; intro a hF
      refine wpList_nil ?_
      exact hJ32 _ _ n4_0 _ (by omega) (by omega) ((hF.bare.add hF 11 rfl).add hF 9 rfl) (hH.sub _ (sub_cons (sub_cons (sub_nil _) 1 rfl) 900 rfl))
    refine wp_cond_split (hF.tmp 34 rfl) (fun hc34 => ?_) (fun hc34 => ?_)
    · have hk34_6 := hc34; try simp only [Bool.or_eq_true, Bool.and_eq_true, Bool.or_eq_false_iff, Bool.and_eq_false_iff, Bool.not_eq_true', Bool.not_eq_false', decide_eq_true_eq, decide_eq_false_iff_not, Bool.not_true, Bool.not_false] at hc34
      refine wp_seq_k fun khK17 hK17 => ?_
      refine wp_region_lit ?_
      refine l_at hF rfl rfl rfl (x_move (hF.tmp 0 rfl)) ?_; clear hF; intro a hF
      refine l_at hF rfl rfl rfl (x_move (hF.tmp 10 rfl)) ?_; clear hF; intro a hF
      refine wpList_plain rfl fun K hK => ?_
      refine w_call hF (x_enter Try.func59 (by kernel_rfl) rfl (by simp only [List.map_toArray, List.map_cons, List.map_nil, hF.tmp 35 rfl, hF.tmp 36 rfl, hF.tmp 9 rfl] <;> rfl)) (medadj_calls _ (hH.rd 900 rfl) (fun k hk => hH.inb 900 _ rfl k (.inr hk)) hlen (by omega) (by omega) (hH.at 1 rfl) (fun h => by have h1 := hok _ h; have h2 := (hH.mine 1 _ rfl b9 rfl).resolve_left (fun h => h); omega)) rfl rfl ?_
      rintro _ w ⟨n1_0, rfl, hp1, hq1, hm_, s1, hb_⟩; refine ⟨_, rfl, ?_⟩; clear hF; intro a hF; have hH := hH.put 1 rfl _ hm_ hb_
      refine hK _ _ ?_; clear hK K
      refine l_at hF rfl rfl rfl (x_assign (hF.tmp 37 rfl)) ?_; clear hF; intro a hF
      refine wpList_nil ?_
      refine hK17 _ _ ?_
      refine wp_seq_k fun khK18 hK18 => ?_
      refine wp_region_lit ?_
      refine l_at hF rfl rfl rfl (x_move (hF.tmp 0 rfl)) ?_; clear hF; intro a hF
      refine l_at hF rfl rfl rfl (x_move (hF.tmp 11 rfl)) ?_; clear hF; intro a hF
      refine wpList_plain rfl fun K hK => ?_
      refine w_call hF (x_enter Try.func59 (by kernel_rfl) rfl (by simp only [List.map_toArray, List.map_cons, List.map_nil, hF.tmp 38 rfl, hF.tmp 39 rfl, hF.tmp 9 rfl] <;> rfl)) (medadj_calls _ (hH.rd 900 rfl) (fun k hk => hH.inb 900 _ rfl k (.inr hk)) hlen (by omega) (by omega) (hH.at 1 rfl) (fun h => by have h1 := hok _ h; have h2 := (hH.mine 1 _ rfl b9 rfl).resolve_left (fun h => h); omega)) rfl rfl ?_
      rintro _ w ⟨n2_0, rfl, hp2, hq2, hm_, s2, hb_⟩; refine ⟨_, rfl, ?_⟩; clear hF; intro a hF; have hH := hH.put 1 rfl _ hm_ hb_
      refine hK _ _ ?_; clear hK K
      refine l_at hF rfl rfl rfl (x_assign (hF.tmp 40 rfl)) ?_; clear hF; intro a hF
      refine wpList_nil ?_
      refine hK18 _ _ ?_
      refine wp_region_lit ?_
      refine l_at hF rfl rfl rfl (x_move (hF.tmp 0 rfl)) ?_; clear hF; intro a hF
      refine l_at hF rfl rfl rfl (x_move (hF.tmp 12 rfl)) ?_; clear hF; intro a hF
      refine wpList_plain rfl fun K hK => ?_
      refine w_call hF (x_enter Try.func59 (by kernel_rfl) rfl (by simp only [List.map_toArray, List.map_cons, List.map_nil, hF.tmp 41 rfl, hF.tmp 42 rfl, hF.tmp 9 rfl] <;> rfl)) (medadj_calls _ (hH.rd 900 rfl) (fun k hk => hH.inb 900 _ rfl k (.inr hk)) hlen (by omega) (by omega) (hH.at 1 rfl) (fun h => by have h1 := hok _ h; have h2 := (hH.mine 1 _ rfl b9 rfl).resolve_left (fun h => h); omega)) rfl rfl ?_
      rintro _ w ⟨n3_0, rfl, hp3, hq3, hm_, s3, hb_⟩; refine ⟨_, rfl, ?_⟩; clear hF; intro a hF; have hH := hH.put 1 rfl _ hm_ hb_
      refine hK _ _ ?_; clear hK K
      refine l_at hF rfl rfl rfl (x_assign (hF.tmp 43 rfl)) ?_; clear hF; intro a hF
      refine wpList_nil ?_
      exact hJ34 _ _ n1_0 n2_0 n3_0 _ (by omega) (by omega) (by omega) (by omega) (by omega) (by omega) (((((hF.bare.add hF 12 rfl).add hF 11 rfl).add hF 10 rfl).add hF 9 rfl).add hF 0 rfl) (hH.sub _ (sub_cons (sub_cons (sub_nil _) 1 rfl) 900 rfl))
    · have hk34_7 := hc34; try simp only [Bool.or_eq_true, Bool.and_eq_true, Bool.or_eq_false_iff, Bool.and_eq_false_iff, Bool.not_eq_true', Bool.not_eq_false', decide_eq_true_eq, decide_eq_false_iff_not, Bool.not_true, Bool.not_false] at hc34
      refine wp_skip ?_
      exact hJ34 _ _ (x + (((y - x) / 4) * 1)) (x + (((y - x) / 4) * 2)) (x + (((y - x) / 4) * 3)) _ (by omega) (by omega) (by omega) (by omega) (by omega) (by omega) (((((hF.bare.add hF 12 rfl).add hF 11 rfl).add hF 10 rfl).add hF 9 rfl).add hF 0 rfl) (hH.sub _ (sub_cons (sub_cons (sub_nil _) 1 rfl) 900 rfl))
  · have hk32_8 := hc32; try simp only [Bool.or_eq_true, Bool.and_eq_true, Bool.or_eq_false_iff, Bool.and_eq_false_iff, Bool.not_eq_true', Bool.not_eq_false', decide_eq_true_eq, decide_eq_false_iff_not, Bool.not_true, Bool.not_false] at hc32
    refine wp_skip ?_
    exact hJ32 _ _ (x + (((y - x) / 4) * 2)) _ (by omega) (by omega) ((hF.bare.add hF 11 rfl).add hF 9 rfl) (hH.sub _ (sub_cons (sub_cons (sub_nil _) 1 rfl) 900 rfl))

theorem pivot_calls (w0 : World) {v : Value} {d : Array Int} (h : Row RB 5 w0 (fun _ => False) v d.toList) {la lb : Nat} (hab : la < lb) (hb : lb ≤ d.size) (hsz : d.size < 1000000000) : Calls Try.prog 48 #[v, .int .i64 (la : Int), .int .i64 (lb : Int)] w0 fun e w' => ∃ (p : Nat) (h : Int), e = .returned (.tuple #[.int .i64 (p : Int), .int .i64 h]) ∧ la ≤ p ∧ p < lb ∧ Mods (fun _ => False) w0 w' := by
  obtain ⟨A, c, rfl⟩ := h.form
  exact pivot0_calls w0 (h.rd (ok' := fun k => (Value.slice A d.toList.length c).ownBlock = some k) (fun k hk _ => hk.elim) (fun k hk => hk)) (fun k hk => h.lt k hk) (by rw [Array.length_toList]; exact hsz) hab (by rw [Array.length_toList]; exact hb)

end Go.Proofs.Ytlcnoibjhmflnaa.Act
