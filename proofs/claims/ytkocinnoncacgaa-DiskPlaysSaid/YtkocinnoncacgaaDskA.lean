/- The walks of disk. -/
import Derived.Test.YtkocinnoncacgaaDskD
import Derived.Test.YtkocinnoncacgaaApp
import Derived.Test.YtkocinnoncacgaaProg
set_option linter.unusedVariables false
set_option linter.unusedSimpArgs false
namespace Go.Proofs.Ytkocinnoncacgaa.Dsk
open Go.RowKit Go.Proofs.Ytkocinnoncacgaa.Sx
theorem ty3 : TyI Try.prog 3 (.int .i64 0) 1 8 false := ⟨by kernel_rfl, _, Try.underlying3, rfl⟩
theorem ty5 : TyI Try.prog 5 (.int .u8 0) 1 1 false := ⟨by kernel_rfl, _, Try.underlying5, rfl⟩
theorem ty42 : TyI Try.prog 42 (.slice none 0 0) 1 24 false := ⟨by kernel_rfl, _, Try.underlying42, rfl⟩
theorem ty104 : TyI Try.prog 104 (.map none) 1 8 false := ⟨by kernel_rfl, _, Try.underlying104, rfl⟩
theorem ty106 : TyI Try.prog 106 (.agg #[.map none, .slice none 0 0]) 2 32 true := ⟨by kernel_rfl, _, Try.underlying106, rfl⟩
theorem ty108 : TyI Try.prog 108 (.agg #[.slice none 0 0, .int .i64 0]) 2 32 true := ⟨by kernel_rfl, _, Try.underlying108, rfl⟩
set_option maxRecDepth 100000 in
set_option maxHeartbeats 1000000 in
theorem clone_calls (w0 : World) {ok : Nat → Prop} {A : Option Addr} {xs : List Int} {c : Nat} (hr : Rd (.int .u8) w0 ok A xs c) (hs : xs.length ≤ 100000000) : Calls Try.prog 68 #[.slice A xs.length c] w0 fun e w' => ∃ v, e = .returned v ∧ Mods (fun _ => False) w0 w' ∧ RowOut (.int .u8) 5 w0 w' v xs := by
  refine calls_of_wp Try.func68 rfl ?_
  have hF := Fr.enter #[.slice A xs.length c] 8 (slotsOf [.slice A xs.length c] 0) (Nat.le_of_ble_eq_true rfl) (fun i v h => by have h2 := (get_slotsOf _ 0 i v h).2; simpa only [List.getElem?_toArray, Nat.sub_zero] using h2)
  have hH := Hp.nil (fun _ => False) w0
  rw [Try.ntmps68]
  revert hF; generalize (⟨(#[.slice A xs.length c] : Array Value) ++ Array.replicate (8 - (#[.slice A xs.length c] : Array Value).size) undef, []⟩ : Act) = a; intro hF
  have hH := hH.arg 901 hr.all (fun _ h => ⟨h, fun h => h⟩)
  have hle901 := hr.le; unfold maxLen at hle901
  refine wp_seq_k fun khK1 hK1 => ?_
  refine wp_region_lit ?_
  refine l_at hF rfl rfl rfl (x_assign rfl) ?_; clear hF; intro a hF
  refine wpList_nil ?_
  refine hK1 _ _ ?_
  refine wp_seq_k fun khK2 hK2 => ?_
  refine wp_seq_k fun khK3 hK3 => ?_
  refine wp_region_lit ?_
  refine l_at hF rfl rfl rfl (x_move (hF.tmp 0 rfl)) ?_; clear hF; intro a hF
  refine l_at hF rfl rfl rfl (x_slnil Try.underlying42 (hF.tmp 3 rfl) rfl) ?_; clear hF; intro a hF
  refine wpList_nil ?_
  refine hK3 _ _ ?_
  refine wp_cond_split (hF.tmp 4 rfl) (fun hc4 => ?_) (fun hc4 => ?_)
  · try simp only [Bool.or_eq_true, Bool.and_eq_true, Bool.or_eq_false_iff, Bool.and_eq_false_iff, Bool.not_eq_true', Bool.not_eq_false', decide_eq_true_eq, decide_eq_false_iff_not, Bool.not_true, Bool.not_false] at hc4
    have hnil := rd_nil hr hc4
    subst hnil
    refine wp_seq_k fun khK4 hK4 => ?_
    refine wp_region_lit ?_
    refine l_at hF rfl rfl rfl (x_assign rfl) ?_; clear hF; intro a hF
    refine wpList_nil ?_
    refine hK4 _ _ ?_
    refine wp_ret ?_
    try simp only [Exit.then, Exit.inBlock]
    exact fin_ret hF (res1 hF rfl rfl) ⟨.slice none 0 0, rfl, hH.mods, RowOut.nil _ _ _ _⟩
  · try simp only [Bool.or_eq_true, Bool.and_eq_true, Bool.or_eq_false_iff, Bool.and_eq_false_iff, Bool.not_eq_true', Bool.not_eq_false', decide_eq_true_eq, decide_eq_false_iff_not, Bool.not_true, Bool.not_false] at hc4
    refine wp_skip ?_
    refine hK2 _ _ ?_
    refine wp_seq_k fun khK5 hK5 => ?_
    refine wp_region_lit ?_
    refine wpList_plain rfl fun K hK => ?_
    refine w_lit0 (.int .u8) 5 hF hH rfl Try.underlying42 ty5 ?_
    clear hF hH; intro a w b5 hF hH
    refine hK _ _ ?_; clear hK K
    refine l_at hF rfl rfl rfl (x_move (hF.tmp 0 rfl)) ?_; clear hF; intro a hF
    refine wpList_plain rfl fun K hK => ?_
    refine w_append 5 901 (xs := ([])) (ys := xs) hF hH rfl Try.underlying42 ty5 rfl rfl rfl rfl ((hH.rd 901 rfl)) (by intro k_ hk_; exact .inr hk_) (hF.tmp 5 rfl) (hF.tmp 6 rfl) (by simp only [List.length_nil] at *; omega) (by simp only [List.length_nil, maxLen] at *; omega) (fun _ => False) (fun w' v' h => row_flat h _) (fun k_ hk_ => hk_.elim) ?_
    clear hF hH; intro a w v7 hF hH
    refine hK _ _ ?_; clear hK K
    refine l_at hF rfl rfl rfl (x_assign (hF.tmp 7 rfl)) ?_; clear hF; intro a hF
    refine wpList_nil ?_
    refine hK5 _ _ ?_
    refine wp_ret ?_
    try simp only [Exit.then, Exit.inBlock]
    rw [List.nil_append] at hH
    exact fin_ret hF (res1 hF rfl rfl) ⟨_, rfl, hH.mods, Hp.out hH 5 rfl⟩

set_option maxRecDepth 100000 in
set_option maxHeartbeats 1000000 in
theorem at_calls (w0 : World) {X : Asn} {bd : Nat} {m : DM} {rt : List Int} (hX : DiskA 106 bd m rt X) (hok : X.ok w0) (n : Int) : Calls Try.prog 67 #[.pointer (some ⟨bd, 0, none⟩), .int .i64 n] w0 fun e w' => ∃ A c, e = .returned (.tuple #[.agg #[.slice A (getM m n).1.length c, .int .i64 (getM m n).2], .int .i64 (atE m n)]) ∧ Mods (fun _ => False) w0 w' ∧ Rd (.int .u8) w' X.rd A (getM m n).1 c := by
  obtain ⟨bm, Ar, cr, okm, okr, rfl⟩ := hX
  refine calls_of_wp Try.func67 rfl ?_
  have hF := Fr.enter #[.pointer (some ⟨bd, 0, none⟩), .int .i64 n] 24 (slotsOf [.pointer (some ⟨bd, 0, none⟩), .int .i64 n] 0) (Nat.le_of_ble_eq_true rfl) (fun i v h => by have h2 := (get_slotsOf _ 0 i v h).2; simpa only [List.getElem?_toArray, Nat.sub_zero] using h2)
  rw [Try.ntmps67]
  revert hF; generalize (⟨(#[.pointer (some ⟨bd, 0, none⟩), .int .i64 n] : Array Value) ++ Array.replicate (24 - (#[.pointer (some ⟨bd, 0, none⟩), .int .i64 n] : Array Value).size) undef, []⟩ : Act) = a; intro hF
  have hH := disk_ro hok.holds
  have hlert := (hH.rd 3 rfl).le; unfold maxLen at hlert
  refine wp_seq_k fun khK1 hK1 => ?_
  refine wp_region_lit ?_
  refine wpList_plain rfl fun K hK => ?_
  refine w_alloc 4 hF hH rfl ty108 ?_
  clear hF hH; intro a w b4 hF hH
  refine hK _ _ ?_; clear hK K
  refine l_at hF rfl rfl rfl (x_assign rfl) ?_; clear hF; intro a hF
  refine wpList_nil ?_
  refine hK1 _ _ ?_
  refine wp_seq_k fun khK2 hK2 => ?_
  refine wp_seq_k fun khK3 hK3 => ?_
  refine wp_region_lit ?_
  refine l_at hF rfl rfl rfl (x_move (hF.tmp 0 rfl)) ?_; clear hF; intro a hF
  refine l_at hF rfl rfl rfl (x_ptrnil Try.underlying40 (hF.tmp 8 rfl) rfl) ?_; clear hF; intro a hF
  refine wpList_nil ?_
  refine hK3 _ _ ?_
  refine wp_cond_false (hF.tmp 9 rfl) ?_
  refine wp_skip ?_
  refine hK2 _ _ ?_
  refine wp_seq_k fun khK4 hK4 => ?_
  refine wp_region_lit ?_
  refine l_at hF rfl rfl rfl (x_move (hF.tmp 0 rfl)) ?_; clear hF; intro a hF
  refine l_at hF rfl rfl rfl (x_nil (hF.tmp 12 rfl)) ?_; clear hF; intro a hF
  refine l_at hF rfl rfl rfl (x_faddr Try.underlying106 rfl ty104 (by decide) (hF.tmp 13 rfl) rfl) ?_; clear hF; intro a hF
  refine l_at hF rfl rfl rfl (x_load1 ty104 (hF.tmp 14 rfl) (blk_cell (hH.atro 1 rfl) 0 rfl)) ?_; clear hF; intro a hF
  refine l_at hF rfl rfl rfl (x_move (hF.tmp 1 rfl)) ?_; clear hF; intro a hF
  obtain ⟨vm17, hvm17, hlm17⟩ := (hH.mapro 2 rfl).look (P := Try.prog) Try.underlying104 Try.underlying3 ((ty108).zero _) seg_zero n
  replace hvm17 : SV.R _ _ (getM m n) _ := hvm17
  obtain ⟨A17, c17, rfl, hr17⟩ := seg_open hvm17
  have hH := hH.subrd 2 rfl 2017 hr17 (fun _ h => .inr h)
  have hle17 := hr17.le; unfold maxLen at hle17
  refine l_at hF rfl rfl rfl (x_lookup hlm17 (hF.tmp 15 rfl) (hF.tmp 16 rfl)) ?_; clear hF; intro a hF
  refine l_at hF rfl rfl rfl (x_move (hF.tmp 17 rfl)) ?_; clear hF; intro a hF
  refine l_at hF rfl rfl rfl (x_extract (hF.tmp 11 rfl) rfl) ?_; clear hF; intro a hF
  refine l_at hF rfl rfl rfl (x_extract (hF.tmp 11 rfl) rfl) ?_; clear hF; intro a hF
  refine wpList_plain rfl fun K hK => ?_
  refine w_alloc 6 hF hH rfl ty108 ?_
  clear hF hH; intro a w b6 hF hH
  refine hK _ _ ?_; clear hK K
  refine wpList_plain rfl fun K hK => ?_
  refine w_storeA 6 hH ty108 rfl (hF.tmp 6 rfl) (hF.tmp 18 rfl) rfl (by simp [Value.cells, Value.oneCell']) rfl ?_
  clear hH; intro w hH
  refine hK _ _ ?_; clear hK K
  refine l_at hF rfl rfl rfl (x_assign (hF.tmp 19 rfl)) ?_; clear hF; intro a hF
  refine wpList_nil ?_
  refine hK4 _ _ ?_
  refine wp_seq_k fun khK5 hK5 => ?_
  refine wp_seq_k fun khK6 hK6 => ?_
  refine wp_region_lit ?_
  refine l_at hF rfl rfl rfl (x_move (hF.tmp 7 rfl)) ?_; clear hF; intro a hF
  refine l_at hF rfl rfl rfl (x_not (hF.tmp 20 rfl)) ?_; clear hF; intro a hF
  refine wpList_nil ?_
  refine hK6 _ _ ?_
  refine wp_cond_split (hF.tmp 21 rfl) (fun hc21 => ?_) (fun hc21 => ?_)
  · try simp only [Bool.or_eq_true, Bool.and_eq_true, Bool.or_eq_false_iff, Bool.and_eq_false_iff, Bool.not_eq_true', Bool.not_eq_false', decide_eq_true_eq, decide_eq_false_iff_not, Bool.not_true, Bool.not_false] at hc21
    refine wp_seq_k fun khK7 hK7 => ?_
    refine wp_region_lit ?_
    refine l_at hF rfl rfl rfl (x_buildS (cells := #[.slice none 0 0, .int .i64 0]) (places := #[(0, 1), (1, 1)]) Try.underlying108 ty108 (by kernel_rfl) Array.map_empty rfl) ?_; clear hF; intro a hF
    refine wpList_plain rfl fun K hK => ?_
    refine w_storeA 4 hH ty108 rfl (hF.tmp 4 rfl) (hF.tmp 22 rfl) rfl (by simp [Value.cells, Value.oneCell']) rfl ?_
    clear hH; intro w hH
    refine hK _ _ ?_; clear hK K
    refine l_at hF rfl rfl rfl (x_assign rfl) ?_; clear hF; intro a hF
    refine wpList_nil ?_
    refine hK7 _ _ ?_
    refine wp_ret ?_
    try simp only [Exit.then, Exit.inBlock]
    have hno := has_no hc21
    refine fin_ret hF (resct hF rfl rfl rfl (hH.at 4 rfl) ty108 rfl) ⟨none, 0, ?_, hH.mods, ?_⟩
    · rw [at_no hc21]; simp only [getM, hno]; rfl
    · simp only [getM, hno]; exact Rd.nil _ _ _
  · try simp only [Bool.or_eq_true, Bool.and_eq_true, Bool.or_eq_false_iff, Bool.and_eq_false_iff, Bool.not_eq_true', Bool.not_eq_false', decide_eq_true_eq, decide_eq_false_iff_not, Bool.not_true, Bool.not_false] at hc21
    refine wp_skip ?_
    refine hK5 _ _ ?_
    refine wp_seq_k fun khK8 hK8 => ?_
    refine wp_region_lit ?_
    refine l_at hF rfl rfl rfl (x_loadn ty108 (hF.tmp 6 rfl) rfl (blk_whole (hH.at 6 rfl))) ?_; clear hF; intro a hF
    refine wpList_plain rfl fun K hK => ?_
    refine w_storeA 4 hH ty108 rfl (hF.tmp 4 rfl) (hF.tmp 23 rfl) rfl (by simp [Value.cells, Value.oneCell']) rfl ?_
    clear hH; intro w hH
    refine hK _ _ ?_; clear hK K
    refine l_at hF rfl rfl rfl (x_assign rfl) ?_; clear hF; intro a hF
    refine wpList_nil ?_
    refine hK8 _ _ ?_
    refine wp_ret ?_
    try simp only [Exit.then, Exit.inBlock]
    refine fin_ret hF (resct hF rfl rfl rfl (hH.at 4 rfl) ty108 rfl) ⟨A17, c17, ?_, hH.mods, ?_⟩
    · rw [at_yes hc21]; rfl
    · exact (hH.rd 2017 rfl).move (fun _ _ _ => rfl) (fun k hk _ => ⟨2, _, rfl, hk⟩)

set_option maxRecDepth 100000 in
set_option maxHeartbeats 1000000 in
theorem read_calls (w0 : World) {X : Asn} {bd : Nat} {m : DM} {rt : List Int} (hX : DiskA 106 bd m rt X) (hok : X.ok w0) (n : Int) (hsz : ∀ n, (getM m n).1.length ≤ 100000000) : Calls Try.prog 23 #[.pointer (some ⟨bd, 0, none⟩), .int .i64 n] w0 fun e w' => ∃ v, e = .returned (.tuple #[v, .int .i64 (atE m n)]) ∧ Mods (fun _ => False) w0 w' ∧ RowOut (.int .u8) 5 w0 w' v (getM m n).1 := by
  refine calls_of_wp Try.func23 rfl ?_
  have hF := Fr.enter #[.pointer (some ⟨bd, 0, none⟩), .int .i64 n] 18 (slotsOf [.pointer (some ⟨bd, 0, none⟩), .int .i64 n] 0) (Nat.le_of_ble_eq_true rfl) (fun i v h => by have h2 := (get_slotsOf _ 0 i v h).2; simpa only [List.getElem?_toArray, Nat.sub_zero] using h2)
  have hH := Hp.nil (fun _ => False) w0
  rw [Try.ntmps23]
  revert hF; generalize (⟨(#[.pointer (some ⟨bd, 0, none⟩), .int .i64 n] : Array Value) ++ Array.replicate (18 - (#[.pointer (some ⟨bd, 0, none⟩), .int .i64 n] : Array Value).size) undef, []⟩ : Act) = a; intro hF
  refine wp_seq_k fun khK1 hK1 => ?_
  refine wp_region_lit ?_
  refine l_at hF rfl rfl rfl (x_assign rfl) ?_; clear hF; intro a hF
  refine l_at hF rfl rfl rfl (x_assign rfl) ?_; clear hF; intro a hF
  refine wpList_nil ?_
  refine hK1 _ _ ?_
  refine wp_seq_k fun khK2 hK2 => ?_
  refine wp_region_lit ?_
  refine l_at hF rfl rfl rfl (x_move (hF.tmp 0 rfl)) ?_; clear hF; intro a hF
  refine l_at hF rfl rfl rfl (x_move (hF.tmp 1 rfl)) ?_; clear hF; intro a hF
  refine wpList_plain rfl fun K hK => ?_
  refine w_call hF (x_enter Try.func67 (by kernel_rfl) rfl (by simp only [List.map_toArray, List.map_cons, List.map_nil, hF.tmp 9 rfl, hF.tmp 10 rfl] <;> rfl)) (at_calls _ hX hok n) rfl rfl ?_
  rintro _ w ⟨Aa, ca, rfl, hm_, hr_⟩; refine ⟨_, rfl, ?_⟩; clear hF; intro a hF; have hH := (hH.same hm_).readable 2900 hr_ (fun k hk => Nat.lt_of_lt_of_le (hok.inb k (.inr hk)) hm_.size) (fun i A h => by simp [Sx.get] at h)
  refine hK _ _ ?_; clear hK K
  refine l_at hF rfl rfl rfl (x_move (hF.tmp 11 rfl)) ?_; clear hF; intro a hF
  refine l_at hF rfl rfl rfl (x_extract (hF.tmp 8 rfl) rfl) ?_; clear hF; intro a hF
  refine l_at hF rfl rfl rfl (x_extract (hF.tmp 8 rfl) rfl) ?_; clear hF; intro a hF
  refine wpList_plain rfl fun K hK => ?_
  refine w_alloc 6 hF hH rfl ty108 ?_
  clear hF hH; intro a w b6 hF hH
  refine hK _ _ ?_; clear hK K
  refine wpList_plain rfl fun K hK => ?_
  refine w_storeA 6 hH ty108 rfl (hF.tmp 6 rfl) (hF.tmp 12 rfl) rfl (by simp [Value.cells, Value.oneCell']) rfl ?_
  clear hH; intro w hH
  refine hK _ _ ?_; clear hK K
  refine l_at hF rfl rfl rfl (x_assign (hF.tmp 13 rfl)) ?_; clear hF; intro a hF
  refine wpList_nil ?_
  refine hK2 _ _ ?_
  refine wp_seq_k fun khK3 hK3 => ?_
  refine wp_region_lit ?_
  refine l_at hF rfl rfl rfl (x_faddr Try.underlying108 rfl ty42 (by decide) (hF.tmp 6 rfl) rfl) ?_; clear hF; intro a hF
  refine l_at hF rfl rfl rfl (x_load1 ty42 (hF.tmp 14 rfl) (blk_cell (hH.at 6 rfl) 0 rfl)) ?_; clear hF; intro a hF
  refine wpList_plain rfl fun K hK => ?_
  refine w_call hF (x_enter Try.func68 (by kernel_rfl) rfl (by simp only [List.map_toArray, List.map_cons, List.map_nil, hF.tmp 15 rfl] <;> rfl)) (clone_calls _ ((hH.rd 2900 rfl)) (hsz n)) rfl rfl ?_
  rintro _ w ⟨vr16, rfl, hm_, hr_⟩; refine ⟨_, rfl, ?_⟩; clear hF; intro a hF; have hH := Hp.rowOut hH 16 hm_ hr_; obtain ⟨Ar16, cr16, rfl⟩ := (hH.row 16 rfl).form
  refine hK _ _ ?_; clear hK K
  refine l_at hF rfl rfl rfl (x_move (hF.tmp 7 rfl)) ?_; clear hF; intro a hF
  refine l_at hF rfl rfl rfl (x_assign (hF.tmp 16 rfl)) ?_; clear hF; intro a hF
  refine l_at hF rfl rfl rfl (x_assign (hF.tmp 17 rfl)) ?_; clear hF; intro a hF
  refine wpList_nil ?_
  refine hK3 _ _ ?_
  refine wp_ret ?_
  try simp only [Exit.then, Exit.inBlock]
  exact fin_ret hF (res2 hF rfl rfl rfl) ⟨_, rfl, hH.mods, Hp.out hH 16 rfl⟩

set_option maxRecDepth 100000 in
set_option maxHeartbeats 1000000 in
theorem safe_calls (w0 : World) {X : Asn} {bd : Nat} {m : DM} {rt : List Int} (hX : DiskA 106 bd m rt X) (hok : X.ok w0) (n : Int) : Calls Try.prog 26 #[.pointer (some ⟨bd, 0, none⟩), .int .i64 n] w0 fun e w' => e = .returned (.int .i64 (getM m n).2) ∧ Mods (fun _ => False) w0 w' := by
  refine calls_of_wp Try.func26 rfl ?_
  have hF := Fr.enter #[.pointer (some ⟨bd, 0, none⟩), .int .i64 n] 15 (slotsOf [.pointer (some ⟨bd, 0, none⟩), .int .i64 n] 0) (Nat.le_of_ble_eq_true rfl) (fun i v h => by have h2 := (get_slotsOf _ 0 i v h).2; simpa only [List.getElem?_toArray, Nat.sub_zero] using h2)
  have hH := Hp.nil (fun _ => False) w0
  rw [Try.ntmps26]
  revert hF; generalize (⟨(#[.pointer (some ⟨bd, 0, none⟩), .int .i64 n] : Array Value) ++ Array.replicate (15 - (#[.pointer (some ⟨bd, 0, none⟩), .int .i64 n] : Array Value).size) undef, []⟩ : Act) = a; intro hF
  refine wp_seq_k fun khK1 hK1 => ?_
  refine wp_region_lit ?_
  refine l_at hF rfl rfl rfl (x_assign rfl) ?_; clear hF; intro a hF
  refine wpList_nil ?_
  refine hK1 _ _ ?_
  refine wp_seq_k fun khK2 hK2 => ?_
  refine wp_region_lit ?_
  refine l_at hF rfl rfl rfl (x_move (hF.tmp 0 rfl)) ?_; clear hF; intro a hF
  refine l_at hF rfl rfl rfl (x_move (hF.tmp 1 rfl)) ?_; clear hF; intro a hF
  refine wpList_plain rfl fun K hK => ?_
  refine w_call hF (x_enter Try.func67 (by kernel_rfl) rfl (by simp only [List.map_toArray, List.map_cons, List.map_nil, hF.tmp 8 rfl, hF.tmp 9 rfl] <;> rfl)) (at_calls _ hX hok n) rfl rfl ?_
  rintro _ w ⟨Aa, ca, rfl, hm_, hr_⟩; refine ⟨_, rfl, ?_⟩; clear hF; intro a hF; have hH := (hH.same hm_).readable 2900 hr_ (fun k hk => Nat.lt_of_lt_of_le (hok.inb k (.inr hk)) hm_.size) (fun i A h => by simp [Sx.get] at h)
  refine hK _ _ ?_; clear hK K
  refine l_at hF rfl rfl rfl (x_move (hF.tmp 10 rfl)) ?_; clear hF; intro a hF
  refine l_at hF rfl rfl rfl (x_extract (hF.tmp 7 rfl) rfl) ?_; clear hF; intro a hF
  refine l_at hF rfl rfl rfl (x_extract (hF.tmp 7 rfl) rfl) ?_; clear hF; intro a hF
  refine wpList_plain rfl fun K hK => ?_
  refine w_alloc 5 hF hH rfl ty108 ?_
  clear hF hH; intro a w b5 hF hH
  refine hK _ _ ?_; clear hK K
  refine wpList_plain rfl fun K hK => ?_
  refine w_storeA 5 hH ty108 rfl (hF.tmp 5 rfl) (hF.tmp 11 rfl) rfl (by simp [Value.cells, Value.oneCell']) rfl ?_
  clear hH; intro w hH
  refine hK _ _ ?_; clear hK K
  refine l_at hF rfl rfl rfl (x_assign (hF.tmp 12 rfl)) ?_; clear hF; intro a hF
  refine wpList_nil ?_
  refine hK2 _ _ ?_
  refine wp_seq_k fun khK3 hK3 => ?_
  refine wp_region_lit ?_
  refine l_at hF rfl rfl rfl (x_faddr Try.underlying108 rfl ty3 (by decide) (hF.tmp 5 rfl) rfl) ?_; clear hF; intro a hF
  refine l_at hF rfl rfl rfl (x_load1 ty3 (hF.tmp 13 rfl) (blk_cell (hH.at 5 rfl) 1 rfl)) ?_; clear hF; intro a hF
  refine l_at hF rfl rfl rfl (x_assign (hF.tmp 14 rfl)) ?_; clear hF; intro a hF
  refine wpList_nil ?_
  refine hK3 _ _ ?_
  refine wp_ret ?_
  try simp only [Exit.then, Exit.inBlock]
  exact fin_ret hF (res1 hF rfl rfl) ⟨rfl, hH.mods⟩

set_option maxRecDepth 100000 in
set_option maxHeartbeats 1000000 in
theorem rem_calls (w0 : World) {X : Asn} {bd : Nat} {m : DM} {rt : List Int} (hX : DiskA 106 bd m rt X) (hok : X.ok w0) (n : Int) : Calls Try.prog 34 #[.pointer (some ⟨bd, 0, none⟩), .int .i64 n] w0 fun e w' => ∃ X', e = .returned (.int .i64 (atE m n)) ∧ DiskA 106 bd (remM m n) rt X' ∧ Grew (fun _ => False) (fun _ => False) X w0 w' X' := by
  obtain ⟨bm, Ar, cr, okm, okr, rfl⟩ := hX
  refine calls_of_wp Try.func34 rfl ?_
  have hF := Fr.enter #[.pointer (some ⟨bd, 0, none⟩), .int .i64 n] 21 (slotsOf [.pointer (some ⟨bd, 0, none⟩), .int .i64 n] 0) (Nat.le_of_ble_eq_true rfl) (fun i v h => by have h2 := (get_slotsOf _ 0 i v h).2; simpa only [List.getElem?_toArray, Nat.sub_zero] using h2)
  rw [Try.ntmps34]
  revert hF; generalize (⟨(#[.pointer (some ⟨bd, 0, none⟩), .int .i64 n] : Array Value) ++ Array.replicate (21 - (#[.pointer (some ⟨bd, 0, none⟩), .int .i64 n] : Array Value).size) undef, []⟩ : Act) = a; intro hF
  have hH := Hp.ofAll hok.holds
  have hlert := (hH.rd 3 rfl).le; unfold maxLen at hlert
  refine wp_seq_k fun khK1 hK1 => ?_
  refine wp_region_lit ?_
  refine l_at hF rfl rfl rfl (x_assign rfl) ?_; clear hF; intro a hF
  refine wpList_nil ?_
  refine hK1 _ _ ?_
  refine wp_seq_k fun khK2 hK2 => ?_
  refine wp_region_lit ?_
  refine l_at hF rfl rfl rfl (x_move (hF.tmp 0 rfl)) ?_; clear hF; intro a hF
  refine l_at hF rfl rfl rfl (x_move (hF.tmp 1 rfl)) ?_; clear hF; intro a hF
  refine wpList_plain rfl fun K hK => ?_
  refine w_call hF (x_enter Try.func67 (by kernel_rfl) rfl (by simp only [List.map_toArray, List.map_cons, List.map_nil, hF.tmp 8 rfl, hF.tmp 9 rfl] <;> rfl)) (at_calls _ ⟨_, _, _, _, _, rfl⟩ (hH.sub [(1, .blk bd (.cells #[.map (some bm), .slice Ar rt.length cr] 106 (0, 0))), (2, .map KI SV bm m okm), (3, .rd_ (.int .u8) Ar rt cr okr)] (sub_cons (sub_cons (sub_cons (sub_nil _) 3 rfl) 2 rfl) 1 rfl)).okAll n) rfl rfl ?_
  rintro _ w ⟨Aa, ca, rfl, hm_, hr_⟩; refine ⟨_, rfl, ?_⟩; clear hF; intro a hF; have hH := (hH.same hm_).subAll 2900 (L := [(1, .blk bd (.cells #[.map (some bm), .slice Ar rt.length cr] 106 (0, 0))), (2, .map KI SV bm m okm), (3, .rd_ (.int .u8) Ar rt cr okr)]) (sub_cons (sub_cons (sub_cons (sub_nil _) 3 rfl) 2 rfl) 1 rfl) hr_
  refine hK _ _ ?_; clear hK K
  refine l_at hF rfl rfl rfl (x_move (hF.tmp 10 rfl)) ?_; clear hF; intro a hF
  refine l_at hF rfl rfl rfl (x_extract (hF.tmp 7 rfl) rfl) ?_; clear hF; intro a hF
  refine l_at hF rfl rfl rfl (x_extract (hF.tmp 7 rfl) rfl) ?_; clear hF; intro a hF
  refine wpList_plain rfl fun K hK => ?_
  refine w_alloc 5 hF hH rfl ty108 ?_
  clear hF hH; intro a w b5 hF hH
  refine hK _ _ ?_; clear hK K
  refine wpList_plain rfl fun K hK => ?_
  refine w_storeA 5 hH ty108 rfl (hF.tmp 5 rfl) (hF.tmp 11 rfl) rfl (by simp [Value.cells, Value.oneCell']) rfl ?_
  clear hH; intro w hH
  refine hK _ _ ?_; clear hK K
  refine l_at hF rfl rfl rfl (x_assign (hF.tmp 12 rfl)) ?_; clear hF; intro a hF
  refine wpList_nil ?_
  refine hK2 _ _ ?_
  refine wp_seq_k fun khK3 hK3 => ?_
  refine wp_seq_k fun khK4 hK4 => ?_
  refine wp_region_lit ?_
  refine l_at hF rfl rfl rfl (x_move (hF.tmp 6 rfl)) ?_; clear hF; intro a hF
  refine l_at hF rfl rfl rfl (x_eql (hF.tmp 13 rfl) rfl) ?_; clear hF; intro a hF
  refine wpList_nil ?_
  refine hK4 _ _ ?_
  refine wp_cond_split (hF.tmp 14 rfl) (fun hc14 => ?_) (fun hc14 => ?_)
  · try simp only [Bool.or_eq_true, Bool.and_eq_true, Bool.or_eq_false_iff, Bool.and_eq_false_iff, Bool.not_eq_true', Bool.not_eq_false', decide_eq_true_eq, decide_eq_false_iff_not, Bool.not_true, Bool.not_false] at hc14
    have hyes := at_zero hc14
    refine wp_region_lit ?_
    refine l_at hF rfl rfl rfl (x_move (hF.tmp 0 rfl)) ?_; clear hF; intro a hF
    refine l_at hF rfl rfl rfl (x_nil (hF.tmp 15 rfl)) ?_; clear hF; intro a hF
    refine l_at hF rfl rfl rfl (x_faddr Try.underlying106 rfl ty104 (by decide) (hF.tmp 16 rfl) rfl) ?_; clear hF; intro a hF
    refine l_at hF rfl rfl rfl (x_load1 ty104 (hF.tmp 17 rfl) (blk_cell (hH.at 1 rfl) 0 rfl)) ?_; clear hF; intro a hF
    refine l_at hF rfl rfl rfl (x_move (hF.tmp 1 rfl)) ?_; clear hF; intro a hF
    refine wpList_plain rfl fun K hK => ?_
    refine w_mapDel0 2 (k := n) hH rfl Try.underlying104 Try.underlying3 (hF.tmp 18 rfl) (hF.tmp 19 rfl) ?_
    clear hH; intro w hH
    refine hK _ _ ?_; clear hK K
    refine wpList_nil ?_
    refine hK3 _ _ ?_
    refine wp_seq_k fun khK5 hK5 => ?_
    refine wp_region_lit ?_
    refine l_at hF rfl rfl rfl (x_move (hF.tmp 6 rfl)) ?_; clear hF; intro a hF
    refine l_at hF rfl rfl rfl (x_assign (hF.tmp 20 rfl)) ?_; clear hF; intro a hF
    refine wpList_nil ?_
    refine hK5 _ _ ?_
    refine wp_ret ?_
    try simp only [Exit.then, Exit.inBlock]
    have hE_ := (rfl : atE m n = atE m n)
    have hM_ := rem_yes hyes
    refine fin_ret hF (res1 hF rfl rfl) ⟨Asn.all [(1, .blk bd (.cells #[.map (some bm), .slice Ar rt.length cr] 106 (0, 0))), (2, .map KI SV bm (mdel m n) okm), (3, .rd_ (.int .u8) Ar rt cr okr)], by rw [hE_] <;> rfl, by rw [hM_]; exact ⟨_, _, _, _, _, rfl⟩, grew_of (hH.sub [(1, .blk bd (.cells #[.map (some bm), .slice Ar rt.length cr] 106 (0, 0))), (2, .map KI SV bm (mdel m n) okm), (3, .rd_ (.int .u8) Ar rt cr okr)] (sub_cons (sub_cons (sub_cons (sub_nil _) 3 rfl) 2 rfl) 1 rfl)) (rdin_cons (fun k h => h.elim) (rdin_cons (fun k h => .inr (.inl ⟨2, _, rfl, h⟩)) (rdin_cons (fun k h => .inr (.inl ⟨3, _, rfl, h⟩)) rdin_nil)))⟩
  · try simp only [Bool.or_eq_true, Bool.and_eq_true, Bool.or_eq_false_iff, Bool.and_eq_false_iff, Bool.not_eq_true', Bool.not_eq_false', decide_eq_true_eq, decide_eq_false_iff_not, Bool.not_true, Bool.not_false] at hc14
    have hno := at_nonzero hc14
    refine wp_skip ?_
    refine hK3 _ _ ?_
    refine wp_seq_k fun khK6 hK6 => ?_
    refine wp_region_lit ?_
    refine l_at hF rfl rfl rfl (x_move (hF.tmp 6 rfl)) ?_; clear hF; intro a hF
    refine l_at hF rfl rfl rfl (x_assign (hF.tmp 20 rfl)) ?_; clear hF; intro a hF
    refine wpList_nil ?_
    refine hK6 _ _ ?_
    refine wp_ret ?_
    try simp only [Exit.then, Exit.inBlock]
    have hE_ := (rfl : atE m n = atE m n)
    have hM_ := rem_no hno
    refine fin_ret hF (res1 hF rfl rfl) ⟨Asn.all [(1, .blk bd (.cells #[.map (some bm), .slice Ar rt.length cr] 106 (0, 0))), (2, .map KI SV bm m okm), (3, .rd_ (.int .u8) Ar rt cr okr)], by rw [hE_] <;> rfl, by rw [hM_]; exact ⟨_, _, _, _, _, rfl⟩, grew_of (hH.sub [(1, .blk bd (.cells #[.map (some bm), .slice Ar rt.length cr] 106 (0, 0))), (2, .map KI SV bm m okm), (3, .rd_ (.int .u8) Ar rt cr okr)] (sub_cons (sub_cons (sub_cons (sub_nil _) 3 rfl) 2 rfl) 1 rfl)) (rdin_cons (fun k h => h.elim) (rdin_cons (fun k h => .inr (.inl ⟨2, _, rfl, h⟩)) (rdin_cons (fun k h => .inr (.inl ⟨3, _, rfl, h⟩)) rdin_nil)))⟩

set_option maxRecDepth 100000 in
set_option maxHeartbeats 1000000 in
theorem sync_calls (w0 : World) {X : Asn} {bd : Nat} {m : DM} {rt : List Int} (hX : DiskA 106 bd m rt X) (hok : X.ok w0) (n : Int) : Calls Try.prog 27 #[.pointer (some ⟨bd, 0, none⟩), .int .i64 n] w0 fun e w' => ∃ X', e = .returned (.int .i64 (atE m n)) ∧ DiskA 106 bd (syncM m n) rt X' ∧ Grew (fun _ => False) (fun _ => False) X w0 w' X' := by
  obtain ⟨bm, Ar, cr, okm, okr, rfl⟩ := hX
  refine calls_of_wp Try.func27 rfl ?_
  have hF := Fr.enter #[.pointer (some ⟨bd, 0, none⟩), .int .i64 n] 26 (slotsOf [.pointer (some ⟨bd, 0, none⟩), .int .i64 n] 0) (Nat.le_of_ble_eq_true rfl) (fun i v h => by have h2 := (get_slotsOf _ 0 i v h).2; simpa only [List.getElem?_toArray, Nat.sub_zero] using h2)
  rw [Try.ntmps27]
  revert hF; generalize (⟨(#[.pointer (some ⟨bd, 0, none⟩), .int .i64 n] : Array Value) ++ Array.replicate (26 - (#[.pointer (some ⟨bd, 0, none⟩), .int .i64 n] : Array Value).size) undef, []⟩ : Act) = a; intro hF
  have hH := Hp.ofAll hok.holds
  have hlert := (hH.rd 3 rfl).le; unfold maxLen at hlert
  refine wp_seq_k fun khK1 hK1 => ?_
  refine wp_region_lit ?_
  refine l_at hF rfl rfl rfl (x_assign rfl) ?_; clear hF; intro a hF
  refine wpList_nil ?_
  refine hK1 _ _ ?_
  refine wp_seq_k fun khK2 hK2 => ?_
  refine wp_region_lit ?_
  refine l_at hF rfl rfl rfl (x_move (hF.tmp 0 rfl)) ?_; clear hF; intro a hF
  refine l_at hF rfl rfl rfl (x_move (hF.tmp 1 rfl)) ?_; clear hF; intro a hF
  refine wpList_plain rfl fun K hK => ?_
  refine w_call hF (x_enter Try.func67 (by kernel_rfl) rfl (by simp only [List.map_toArray, List.map_cons, List.map_nil, hF.tmp 8 rfl, hF.tmp 9 rfl] <;> rfl)) (at_calls _ ⟨_, _, _, _, _, rfl⟩ (hH.sub [(1, .blk bd (.cells #[.map (some bm), .slice Ar rt.length cr] 106 (0, 0))), (2, .map KI SV bm m okm), (3, .rd_ (.int .u8) Ar rt cr okr)] (sub_cons (sub_cons (sub_cons (sub_nil _) 3 rfl) 2 rfl) 1 rfl)).okAll n) rfl rfl ?_
  rintro _ w ⟨Aa, ca, rfl, hm_, hr_⟩; refine ⟨_, rfl, ?_⟩; clear hF; intro a hF; have hH := (hH.same hm_).subAll 2900 (L := [(1, .blk bd (.cells #[.map (some bm), .slice Ar rt.length cr] 106 (0, 0))), (2, .map KI SV bm m okm), (3, .rd_ (.int .u8) Ar rt cr okr)]) (sub_cons (sub_cons (sub_cons (sub_nil _) 3 rfl) 2 rfl) 1 rfl) hr_
  refine hK _ _ ?_; clear hK K
  refine l_at hF rfl rfl rfl (x_move (hF.tmp 10 rfl)) ?_; clear hF; intro a hF
  refine l_at hF rfl rfl rfl (x_extract (hF.tmp 7 rfl) rfl) ?_; clear hF; intro a hF
  refine l_at hF rfl rfl rfl (x_extract (hF.tmp 7 rfl) rfl) ?_; clear hF; intro a hF
  refine wpList_plain rfl fun K hK => ?_
  refine w_alloc 5 hF hH rfl ty108 ?_
  clear hF hH; intro a w b5 hF hH
  refine hK _ _ ?_; clear hK K
  refine wpList_plain rfl fun K hK => ?_
  refine w_storeA 5 hH ty108 rfl (hF.tmp 5 rfl) (hF.tmp 11 rfl) rfl (by simp [Value.cells, Value.oneCell']) rfl ?_
  clear hH; intro w hH
  refine hK _ _ ?_; clear hK K
  refine l_at hF rfl rfl rfl (x_assign (hF.tmp 12 rfl)) ?_; clear hF; intro a hF
  refine wpList_nil ?_
  refine hK2 _ _ ?_
  refine wp_seq_k fun khK3 hK3 => ?_
  refine wp_seq_k fun khK4 hK4 => ?_
  refine wp_region_lit ?_
  refine l_at hF rfl rfl rfl (x_move (hF.tmp 6 rfl)) ?_; clear hF; intro a hF
  refine l_at hF rfl rfl rfl (x_eql (hF.tmp 13 rfl) rfl) ?_; clear hF; intro a hF
  refine wpList_nil ?_
  refine hK4 _ _ ?_
  refine wp_cond_split (hF.tmp 14 rfl) (fun hc14 => ?_) (fun hc14 => ?_)
  · try simp only [Bool.or_eq_true, Bool.and_eq_true, Bool.or_eq_false_iff, Bool.and_eq_false_iff, Bool.not_eq_true', Bool.not_eq_false', decide_eq_true_eq, decide_eq_false_iff_not, Bool.not_true, Bool.not_false] at hc14
    have hyes := at_zero hc14
    refine wp_seq_k fun khK5 hK5 => ?_
    refine wp_region_lit ?_
    refine l_at hF rfl rfl rfl (x_faddr Try.underlying108 rfl ty42 (by decide) (hF.tmp 5 rfl) rfl) ?_; clear hF; intro a hF
    refine l_at hF rfl rfl rfl (x_load1 ty42 (hF.tmp 15 rfl) (blk_cell (hH.at 5 rfl) 0 rfl)) ?_; clear hF; intro a hF
    refine l_at hF rfl rfl rfl (x_len_slice Try.underlying42 (hF.tmp 16 rfl)) ?_; clear hF; intro a hF
    refine l_at hF rfl rfl rfl (x_faddr Try.underlying108 rfl ty3 (by decide) (hF.tmp 5 rfl) rfl) ?_; clear hF; intro a hF
    refine wpList_plain rfl fun K hK => ?_
    refine w_store 5 hH ty3 rfl (hF.tmp 18 rfl) (hF.tmp 17 rfl) rfl (one1 rfl rfl) (by first | decide | exact Nat.le_of_ble_eq_true rfl) ?_
    clear hH; intro w hH
    refine hK _ _ ?_; clear hK K
    refine wpList_nil ?_
    refine hK5 _ _ ?_
    refine r_start [(1, .blk bd (.cells #[.map (some bm), .slice Ar rt.length cr] 106 (0, 0))), (5, .blk b5 (.cells #[.slice Aa (getM m n).1.length ca, .int .i64 ((getM m n).1.length : Int)] 108 (0, 0)))] (by kernel_rfl) hH fun hH => ?_
    have hS : SL [(1, .blk bd (.cells #[.map (some bm), .slice Ar rt.length cr] 106 (0, 0))), (5, .blk b5 (.cells #[.slice Aa (getM m n).1.length ca, .int .i64 ((getM m n).1.length : Int)] 108 (0, 0)))] _ := SL.of hH (sub_cons (sub_cons (sub_nil _) 5 rfl) 1 rfl)
    refine r_take 0 hF rfl rfl rfl (by kernel_rfl) (by kernel_rfl) (by kernel_rfl) (fun _ _ _ h => h) rfl hS (fun w hS => x_move (hF.tmp 0 rfl)) rfl ?_; clear hF; intro a hF
    refine r_take 1 hF rfl rfl rfl (by kernel_rfl) (by kernel_rfl) (by kernel_rfl) (fun _ _ _ h => h) rfl hS (fun w hS => x_nil (hF.tmp 19 rfl)) rfl ?_; clear hF; intro a hF
    refine r_take 2 hF rfl rfl rfl (by kernel_rfl) (by kernel_rfl) (by kernel_rfl) (fun _ _ _ h => h) rfl hS (fun w hS => x_faddr Try.underlying106 rfl ty104 (by decide) (hF.tmp 20 rfl) rfl) rfl ?_; clear hF; intro a hF
    refine r_take 3 hF rfl rfl rfl (by kernel_rfl) (by kernel_rfl) (by kernel_rfl) (fun _ _ _ h => h) rfl hS (fun w hS => x_load1 ty104 (hF.tmp 21 rfl) (blk_cell (SL.at_ hS 1 rfl) 0 rfl)) rfl ?_; clear hF; intro a hF
    refine r_take 4 hF rfl rfl rfl (by kernel_rfl) (by kernel_rfl) (by kernel_rfl) (fun _ _ _ h => h) rfl hS (fun w hS => x_move (hF.tmp 1 rfl)) rfl ?_; clear hF; intro a hF
    refine r_take 5 hF rfl rfl rfl (by kernel_rfl) (by kernel_rfl) (by kernel_rfl) (fun _ _ _ h => h) rfl hS (fun w hS => x_loadn ty108 (hF.tmp 5 rfl) rfl (blk_whole (SL.at_ hS 5 rfl))) rfl ?_; clear hF; intro a hF
    refine r_do 6 rfl (by kernel_rfl) rfl rfl ?_
    refine w_mapSet 2 (k := n) (yv := ((getM m n).1, ((getM m n).1.length : Int))) (fun k => okm k ∨ (RdL [(1, .blk bd (.cells #[.map (some bm), .slice Ar rt.length cr] 106 (0, 0))), (2, .map KI SV bm m okm), (3, .rd_ (.int .u8) Ar rt cr okr)]) k) hH rfl Try.underlying104 Try.underlying3 (hF.tmp 22 rfl) (hF.tmp 23 rfl) (hF.tmp 24 rfl) (seg_mk (x := ((getM m n).1, ((getM m n).1.length : Int))) (((hH.rd 2900 rfl)).move (fun _ _ _ => rfl) (fun k hk _ => ⟨.inr hk, fun e => hH.sep 2 2900 _ _ (by decide) rfl rfl k e (.inr hk)⟩))) (fun k hk => .inl hk) (fun k hk => hk.elim .inl (fun h => .inr ⟨2900, _, rfl, h⟩)) ?_
    clear hH; intro w hH
    clear hS; have hS : SL _ _ := SL.of hH (sub_cons (sub_cons (sub_nil _) 5 rfl) 1 rfl); refine ⟨hS, ?_⟩
    refine r_end (by kernel_rfl) ?_; clear hS
    refine hK3 _ _ ?_
    refine wp_seq_k fun khK6 hK6 => ?_
    refine wp_region_lit ?_
    refine l_at hF rfl rfl rfl (x_move (hF.tmp 6 rfl)) ?_; clear hF; intro a hF
    refine l_at hF rfl rfl rfl (x_assign (hF.tmp 25 rfl)) ?_; clear hF; intro a hF
    refine wpList_nil ?_
    refine hK6 _ _ ?_
    refine wp_ret ?_
    try simp only [Exit.then, Exit.inBlock]
    have hE_ := (rfl : atE m n = atE m n)
    have hM_ := sync_yes hyes
    refine fin_ret hF (res1 hF rfl rfl) ⟨Asn.all [(1, .blk bd (.cells #[.map (some bm), .slice Ar rt.length cr] 106 (0, 0))), (2, .map KI SV bm (mput m n ((getM m n).1, ((getM m n).1.length : Int))) (fun k => okm k ∨ (RdL [(1, .blk bd (.cells #[.map (some bm), .slice Ar rt.length cr] 106 (0, 0))), (2, .map KI SV bm m okm), (3, .rd_ (.int .u8) Ar rt cr okr)]) k)), (3, .rd_ (.int .u8) Ar rt cr okr)], by rw [hE_] <;> rfl, by rw [hM_]; exact ⟨_, _, _, _, _, rfl⟩, grew_of (hH.sub [(1, .blk bd (.cells #[.map (some bm), .slice Ar rt.length cr] 106 (0, 0))), (2, .map KI SV bm (mput m n ((getM m n).1, ((getM m n).1.length : Int))) (fun k => okm k ∨ (RdL [(1, .blk bd (.cells #[.map (some bm), .slice Ar rt.length cr] 106 (0, 0))), (2, .map KI SV bm m okm), (3, .rd_ (.int .u8) Ar rt cr okr)]) k)), (3, .rd_ (.int .u8) Ar rt cr okr)] (sub_cons (sub_cons (sub_cons (sub_nil _) 3 rfl) 2 rfl) 1 rfl)) (rdin_cons (fun k h => h.elim) (rdin_cons (fun k h => by rcases h.1 with h1 | h1; exact .inr (.inl ⟨2, _, rfl, h1, h.2⟩); exact .inr (.inl h1)) (rdin_cons (fun k h => .inr (.inl ⟨3, _, rfl, h⟩)) rdin_nil)))⟩
  · try simp only [Bool.or_eq_true, Bool.and_eq_true, Bool.or_eq_false_iff, Bool.and_eq_false_iff, Bool.not_eq_true', Bool.not_eq_false', decide_eq_true_eq, decide_eq_false_iff_not, Bool.not_true, Bool.not_false] at hc14
    have hno := at_nonzero hc14
    refine wp_skip ?_
    refine hK3 _ _ ?_
    refine wp_seq_k fun khK7 hK7 => ?_
    refine wp_region_lit ?_
    refine l_at hF rfl rfl rfl (x_move (hF.tmp 6 rfl)) ?_; clear hF; intro a hF
    refine l_at hF rfl rfl rfl (x_assign (hF.tmp 25 rfl)) ?_; clear hF; intro a hF
    refine wpList_nil ?_
    refine hK7 _ _ ?_
    refine wp_ret ?_
    try simp only [Exit.then, Exit.inBlock]
    have hE_ := (rfl : atE m n = atE m n)
    have hM_ := sync_no hno
    refine fin_ret hF (res1 hF rfl rfl) ⟨Asn.all [(1, .blk bd (.cells #[.map (some bm), .slice Ar rt.length cr] 106 (0, 0))), (2, .map KI SV bm m okm), (3, .rd_ (.int .u8) Ar rt cr okr)], by rw [hE_] <;> rfl, by rw [hM_]; exact ⟨_, _, _, _, _, rfl⟩, grew_of (hH.sub [(1, .blk bd (.cells #[.map (some bm), .slice Ar rt.length cr] 106 (0, 0))), (2, .map KI SV bm m okm), (3, .rd_ (.int .u8) Ar rt cr okr)] (sub_cons (sub_cons (sub_cons (sub_nil _) 3 rfl) 2 rfl) 1 rfl)) (rdin_cons (fun k h => h.elim) (rdin_cons (fun k h => .inr (.inl ⟨2, _, rfl, h⟩)) (rdin_cons (fun k h => .inr (.inl ⟨3, _, rfl, h⟩)) rdin_nil)))⟩

set_option maxRecDepth 100000 in
set_option maxHeartbeats 1000000 in
theorem cut_calls (w0 : World) {X : Asn} {bd : Nat} {m : DM} {rt : List Int} (hX : DiskA 106 bd m rt X) (hok : X.ok w0) (n k : Int) : Calls Try.prog 25 #[.pointer (some ⟨bd, 0, none⟩), .int .i64 n, .int .i64 k] w0 fun e w' => ∃ X', e = .returned (.int .i64 (cutE m n k)) ∧ DiskA 106 bd (cutM m n k) rt X' ∧ Grew (fun _ => False) (fun _ => False) X w0 w' X' := by
  obtain ⟨bm, Ar, cr, okm, okr, rfl⟩ := hX
  refine calls_of_wp Try.func25 rfl ?_
  have hF := Fr.enter #[.pointer (some ⟨bd, 0, none⟩), .int .i64 n, .int .i64 k] 41 (slotsOf [.pointer (some ⟨bd, 0, none⟩), .int .i64 n, .int .i64 k] 0) (Nat.le_of_ble_eq_true rfl) (fun i v h => by have h2 := (get_slotsOf _ 0 i v h).2; simpa only [List.getElem?_toArray, Nat.sub_zero] using h2)
  rw [Try.ntmps25]
  revert hF; generalize (⟨(#[.pointer (some ⟨bd, 0, none⟩), .int .i64 n, .int .i64 k] : Array Value) ++ Array.replicate (41 - (#[.pointer (some ⟨bd, 0, none⟩), .int .i64 n, .int .i64 k] : Array Value).size) undef, []⟩ : Act) = a; intro hF
  have hH := Hp.ofAll hok.holds
  have hlert := (hH.rd 3 rfl).le; unfold maxLen at hlert
  refine wp_seq_k fun khK1 hK1 => ?_
  refine wp_region_lit ?_
  refine l_at hF rfl rfl rfl (x_assign rfl) ?_; clear hF; intro a hF
  refine wpList_nil ?_
  refine hK1 _ _ ?_
  refine wp_seq_k fun khK2 hK2 => ?_
  refine wp_region_lit ?_
  refine l_at hF rfl rfl rfl (x_move (hF.tmp 0 rfl)) ?_; clear hF; intro a hF
  refine l_at hF rfl rfl rfl (x_move (hF.tmp 1 rfl)) ?_; clear hF; intro a hF
  refine wpList_plain rfl fun K hK => ?_
  refine w_call hF (x_enter Try.func67 (by kernel_rfl) rfl (by simp only [List.map_toArray, List.map_cons, List.map_nil, hF.tmp 10 rfl, hF.tmp 11 rfl] <;> rfl)) (at_calls _ ⟨_, _, _, _, _, rfl⟩ (hH.sub [(1, .blk bd (.cells #[.map (some bm), .slice Ar rt.length cr] 106 (0, 0))), (2, .map KI SV bm m okm), (3, .rd_ (.int .u8) Ar rt cr okr)] (sub_cons (sub_cons (sub_cons (sub_nil _) 3 rfl) 2 rfl) 1 rfl)).okAll n) rfl rfl ?_
  rintro _ w ⟨Aa, ca, rfl, hm_, hr_⟩; refine ⟨_, rfl, ?_⟩; clear hF; intro a hF; have hH := (hH.same hm_).subAll 2900 (L := [(1, .blk bd (.cells #[.map (some bm), .slice Ar rt.length cr] 106 (0, 0))), (2, .map KI SV bm m okm), (3, .rd_ (.int .u8) Ar rt cr okr)]) (sub_cons (sub_cons (sub_cons (sub_nil _) 3 rfl) 2 rfl) 1 rfl) hr_
  refine hK _ _ ?_; clear hK K
  refine l_at hF rfl rfl rfl (x_move (hF.tmp 12 rfl)) ?_; clear hF; intro a hF
  refine l_at hF rfl rfl rfl (x_extract (hF.tmp 9 rfl) rfl) ?_; clear hF; intro a hF
  refine l_at hF rfl rfl rfl (x_extract (hF.tmp 9 rfl) rfl) ?_; clear hF; intro a hF
  refine wpList_plain rfl fun K hK => ?_
  refine w_alloc 7 hF hH rfl ty108 ?_
  clear hF hH; intro a w b7 hF hH
  refine hK _ _ ?_; clear hK K
  refine wpList_plain rfl fun K hK => ?_
  refine w_storeA 7 hH ty108 rfl (hF.tmp 7 rfl) (hF.tmp 13 rfl) rfl (by simp [Value.cells, Value.oneCell']) rfl ?_
  clear hH; intro w hH
  refine hK _ _ ?_; clear hK K
  refine l_at hF rfl rfl rfl (x_assign (hF.tmp 14 rfl)) ?_; clear hF; intro a hF
  refine wpList_nil ?_
  refine hK2 _ _ ?_
  refine wp_seq_k fun khK3 hK3 => ?_
  refine wp_block ?_
  refine wp_seq_k fun khK4 hK4 => ?_
  refine wp_region_lit ?_
  refine l_at hF rfl rfl rfl (x_move (hF.tmp 8 rfl)) ?_; clear hF; intro a hF
  refine l_at hF rfl rfl rfl (x_neq (hF.tmp 16 rfl) rfl) ?_; clear hF; intro a hF
  refine l_at hF rfl rfl rfl (x_assign (hF.tmp 17 rfl)) ?_; clear hF; intro a hF
  refine wpList_nil ?_
  refine hK4 _ _ ?_
  refine wp_cond_split (hF.tmp 15 rfl) (fun hc15 => ?_) (fun hc15 => ?_)
  · try simp only [Bool.or_eq_true, Bool.and_eq_true, Bool.or_eq_false_iff, Bool.and_eq_false_iff, Bool.not_eq_true', Bool.not_eq_false', decide_eq_true_eq, decide_eq_false_iff_not, Bool.not_true, Bool.not_false] at hc15
    have hno := cut_none (k := k) hc15
    refine wp_seq_k fun khK5 hK5 => ?_
    refine wp_region_lit ?_
    refine l_at hF rfl rfl rfl (x_move (hF.tmp 8 rfl)) ?_; clear hF; intro a hF
    refine l_at hF rfl rfl rfl (x_assign (hF.tmp 18 rfl)) ?_; clear hF; intro a hF
    refine wpList_nil ?_
    refine hK5 _ _ ?_
    refine wp_ret ?_
    try simp only [Exit.then, Exit.inBlock]
    have hE_ := hno.1
    have hM_ := hno.2
    refine fin_ret hF (res1 hF rfl rfl) ⟨Asn.all [(1, .blk bd (.cells #[.map (some bm), .slice Ar rt.length cr] 106 (0, 0))), (2, .map KI SV bm m okm), (3, .rd_ (.int .u8) Ar rt cr okr)], by rw [hE_] <;> rfl, by rw [hM_]; exact ⟨_, _, _, _, _, rfl⟩, grew_of (hH.sub [(1, .blk bd (.cells #[.map (some bm), .slice Ar rt.length cr] 106 (0, 0))), (2, .map KI SV bm m okm), (3, .rd_ (.int .u8) Ar rt cr okr)] (sub_cons (sub_cons (sub_cons (sub_nil _) 3 rfl) 2 rfl) 1 rfl)) (rdin_cons (fun k h => h.elim) (rdin_cons (fun k h => .inr (.inl ⟨2, _, rfl, h⟩)) (rdin_cons (fun k h => .inr (.inl ⟨3, _, rfl, h⟩)) rdin_nil)))⟩
  · try simp only [Bool.or_eq_true, Bool.and_eq_true, Bool.or_eq_false_iff, Bool.and_eq_false_iff, Bool.not_eq_true', Bool.not_eq_false', decide_eq_true_eq, decide_eq_false_iff_not, Bool.not_true, Bool.not_false] at hc15
    have hyes := at_zero hc15
    refine wp_seq_k fun khK6 hK6 => ?_
    refine wp_region_lit ?_
    refine l_at hF rfl rfl rfl (x_move (hF.tmp 2 rfl)) ?_; clear hF; intro a hF
    refine l_at hF rfl rfl rfl (x_lss (hF.tmp 20 rfl) rfl) ?_; clear hF; intro a hF
    refine l_at hF rfl rfl rfl (x_move (hF.tmp 21 rfl)) ?_; clear hF; intro a hF
    refine split_bool hF 22 rfl (fun hb22 => ?_) (fun hb22 => ?_)
    · have hc22 := hb22; try simp only [Bool.or_eq_true, Bool.and_eq_true, Bool.or_eq_false_iff, Bool.and_eq_false_iff, Bool.not_eq_true', Bool.not_eq_false', decide_eq_true_eq, decide_eq_false_iff_not, Bool.not_true, Bool.not_false] at hc22
      have hno := cut_neg (m := m) (n := n) hc22
      refine l_offg hF ((wanted_of hF rfl rfl rfl rfl).trans (by rw [hb22]; rfl)) rfl rfl ?_; clear hF; intro a hF
      refine l_offg hF ((wanted_of hF rfl rfl rfl rfl).trans (by rw [hb22]; rfl)) rfl rfl ?_; clear hF; intro a hF
      refine l_offg hF ((wanted_of hF rfl rfl rfl rfl).trans (by rw [hb22]; rfl)) rfl rfl ?_; clear hF; intro a hF
      refine l_offg hF ((wanted_of hF rfl rfl rfl rfl).trans (by rw [hb22]; rfl)) rfl rfl ?_; clear hF; intro a hF
      refine l_offg hF ((wanted_of hF rfl rfl rfl rfl).trans (by rw [hb22]; rfl)) rfl rfl ?_; clear hF; intro a hF
      refine l_at hF rfl rfl rfl (x_pickT (hF.tmp 22 rfl) hb22 rfl) ?_; clear hF; intro a hF
      refine l_at hF rfl rfl rfl (x_assign (hF.tmp 28 rfl)) ?_; clear hF; intro a hF
      refine wpList_nil ?_
      refine hK6 _ _ ?_
      refine wp_cond_true (hF.tmp 19 rfl) ?_
      refine wp_seq_k fun khK7 hK7 => ?_
      refine wp_region_lit ?_
      refine l_at hF rfl rfl rfl (x_assign rfl) ?_; clear hF; intro a hF
      refine wpList_nil ?_
      refine hK7 _ _ ?_
      refine wp_ret ?_
      try simp only [Exit.then, Exit.inBlock]
      have hE_ := hno.1
      have hM_ := hno.2
      refine fin_ret hF (res1 hF rfl rfl) ⟨Asn.all [(1, .blk bd (.cells #[.map (some bm), .slice Ar rt.length cr] 106 (0, 0))), (2, .map KI SV bm m okm), (3, .rd_ (.int .u8) Ar rt cr okr)], by rw [hE_] <;> rfl, by rw [hM_]; exact ⟨_, _, _, _, _, rfl⟩, grew_of (hH.sub [(1, .blk bd (.cells #[.map (some bm), .slice Ar rt.length cr] 106 (0, 0))), (2, .map KI SV bm m okm), (3, .rd_ (.int .u8) Ar rt cr okr)] (sub_cons (sub_cons (sub_cons (sub_nil _) 3 rfl) 2 rfl) 1 rfl)) (rdin_cons (fun k h => h.elim) (rdin_cons (fun k h => .inr (.inl ⟨2, _, rfl, h⟩)) (rdin_cons (fun k h => .inr (.inl ⟨3, _, rfl, h⟩)) rdin_nil)))⟩
    · have hc22 := hb22; try simp only [Bool.or_eq_true, Bool.and_eq_true, Bool.or_eq_false_iff, Bool.and_eq_false_iff, Bool.not_eq_true', Bool.not_eq_false', decide_eq_true_eq, decide_eq_false_iff_not, Bool.not_true, Bool.not_false] at hc22
      refine l_atg hF ((wanted_of hF rfl rfl rfl rfl).trans (by rw [hb22]; rfl)) rfl rfl (x_move (hF.tmp 2 rfl)) ?_; clear hF; intro a hF
      refine l_atg hF ((wanted_of hF rfl rfl rfl rfl).trans (by rw [hb22]; rfl)) rfl rfl (x_faddr Try.underlying108 rfl ty42 (by decide) (hF.tmp 7 rfl) rfl) ?_; clear hF; intro a hF
      refine l_atg hF ((wanted_of hF rfl rfl rfl rfl).trans (by rw [hb22]; rfl)) rfl rfl (x_load1 ty42 (hF.tmp 24 rfl) (blk_cell (hH.at 7 rfl) 0 rfl)) ?_; clear hF; intro a hF
      refine l_atg hF ((wanted_of hF rfl rfl rfl rfl).trans (by rw [hb22]; rfl)) rfl rfl (x_len_slice Try.underlying42 (hF.tmp 25 rfl)) ?_; clear hF; intro a hF
      refine l_atg hF ((wanted_of hF rfl rfl rfl rfl).trans (by rw [hb22]; rfl)) rfl rfl (x_gtr (hF.tmp 23 rfl) (hF.tmp 26 rfl)) ?_; clear hF; intro a hF
      refine l_at hF rfl rfl rfl (x_pickF (hF.tmp 22 rfl) hb22 (hF.tmp 27 rfl)) ?_; clear hF; intro a hF
      refine l_at hF rfl rfl rfl (x_assign (hF.tmp 28 rfl)) ?_; clear hF; intro a hF
      refine wpList_nil ?_
      refine hK6 _ _ ?_
      refine wp_cond_split (hF.tmp 19 rfl) (fun hc19 => ?_) (fun hc19 => ?_)
      · try simp only [Bool.or_eq_true, Bool.and_eq_true, Bool.or_eq_false_iff, Bool.and_eq_false_iff, Bool.not_eq_true', Bool.not_eq_false', decide_eq_true_eq, decide_eq_false_iff_not, Bool.not_true, Bool.not_false] at hc19
        have hno := cut_far (m := m) (n := n) hc19
        refine wp_seq_k fun khK8 hK8 => ?_
        refine wp_region_lit ?_
        refine l_at hF rfl rfl rfl (x_assign rfl) ?_; clear hF; intro a hF
        refine wpList_nil ?_
        refine hK8 _ _ ?_
        refine wp_ret ?_
        try simp only [Exit.then, Exit.inBlock]
        have hE_ := hno.1
        have hM_ := hno.2
        refine fin_ret hF (res1 hF rfl rfl) ⟨Asn.all [(1, .blk bd (.cells #[.map (some bm), .slice Ar rt.length cr] 106 (0, 0))), (2, .map KI SV bm m okm), (3, .rd_ (.int .u8) Ar rt cr okr)], by rw [hE_] <;> rfl, by rw [hM_]; exact ⟨_, _, _, _, _, rfl⟩, grew_of (hH.sub [(1, .blk bd (.cells #[.map (some bm), .slice Ar rt.length cr] 106 (0, 0))), (2, .map KI SV bm m okm), (3, .rd_ (.int .u8) Ar rt cr okr)] (sub_cons (sub_cons (sub_cons (sub_nil _) 3 rfl) 2 rfl) 1 rfl)) (rdin_cons (fun k h => h.elim) (rdin_cons (fun k h => .inr (.inl ⟨2, _, rfl, h⟩)) (rdin_cons (fun k h => .inr (.inl ⟨3, _, rfl, h⟩)) rdin_nil)))⟩
      · try simp only [Bool.or_eq_true, Bool.and_eq_true, Bool.or_eq_false_iff, Bool.and_eq_false_iff, Bool.not_eq_true', Bool.not_eq_false', decide_eq_true_eq, decide_eq_false_iff_not, Bool.not_true, Bool.not_false] at hc19
        refine wp_skip ?_
        refine hK3 _ _ ?_
        refine wp_seq_k fun khK9 hK9 => ?_
        refine r_start [(1, .blk bd (.cells #[.map (some bm), .slice Ar rt.length cr] 106 (0, 0))), (7, .blk b7 (.cells #[.slice Aa (getM m n).1.length ca, .int .i64 (getM m n).2] 108 (0, 0))), (2900, .rd_ (.int .u8) Aa (getM m n).1 ca (RdL [(1, .blk bd (.cells #[.map (some bm), .slice Ar rt.length cr] 106 (0, 0))), (2, .map KI SV bm m okm), (3, .rd_ (.int .u8) Ar rt cr okr)]))] (by kernel_rfl) hH fun hH => ?_
        have hS : SL [(1, .blk bd (.cells #[.map (some bm), .slice Ar rt.length cr] 106 (0, 0))), (7, .blk b7 (.cells #[.slice Aa (getM m n).1.length ca, .int .i64 (getM m n).2] 108 (0, 0))), (2900, .rd_ (.int .u8) Aa (getM m n).1 ca (RdL [(1, .blk bd (.cells #[.map (some bm), .slice Ar rt.length cr] 106 (0, 0))), (2, .map KI SV bm m okm), (3, .rd_ (.int .u8) Ar rt cr okr)]))] _ := SL.of hH (sub_cons (sub_cons (sub_cons (sub_nil _) 2900 rfl) 7 rfl) 1 rfl)
        refine r_take 0 hF rfl rfl rfl (by kernel_rfl) (by kernel_rfl) (by kernel_rfl) (fun _ _ _ h => h) rfl hS (fun w hS => x_move (hF.tmp 0 rfl)) rfl ?_; clear hF; intro a hF
        refine r_take 1 hF rfl rfl rfl (by kernel_rfl) (by kernel_rfl) (by kernel_rfl) (fun _ _ _ h => h) rfl hS (fun w hS => x_nil (hF.tmp 29 rfl)) rfl ?_; clear hF; intro a hF
        refine r_take 2 hF rfl rfl rfl (by kernel_rfl) (by kernel_rfl) (by kernel_rfl) (fun _ _ _ h => h) rfl hS (fun w hS => x_faddr Try.underlying106 rfl ty104 (by decide) (hF.tmp 30 rfl) rfl) rfl ?_; clear hF; intro a hF
        refine r_take 3 hF rfl rfl rfl (by kernel_rfl) (by kernel_rfl) (by kernel_rfl) (fun _ _ _ h => h) rfl hS (fun w hS => x_load1 ty104 (hF.tmp 31 rfl) (blk_cell (SL.at_ hS 1 rfl) 0 rfl)) rfl ?_; clear hF; intro a hF
        refine r_take 4 hF rfl rfl rfl (by kernel_rfl) (by kernel_rfl) (by kernel_rfl) (fun _ _ _ h => h) rfl hS (fun w hS => x_move (hF.tmp 1 rfl)) rfl ?_; clear hF; intro a hF
        refine r_take 5 hF rfl rfl rfl (by kernel_rfl) (by kernel_rfl) (by kernel_rfl) (fun _ _ _ h => h) rfl hS (fun w hS => x_faddr Try.underlying108 rfl ty42 (by decide) (hF.tmp 7 rfl) rfl) rfl ?_; clear hF; intro a hF
        refine r_take 6 hF rfl rfl rfl (by kernel_rfl) (by kernel_rfl) (by kernel_rfl) (fun _ _ _ h => h) rfl hS (fun w hS => x_load1 ty42 (hF.tmp 34 rfl) (blk_cell (SL.at_ hS 7 rfl) 0 rfl)) rfl ?_; clear hF; intro a hF
        refine r_take 7 hF rfl rfl rfl (by kernel_rfl) (by kernel_rfl) (by kernel_rfl) (fun _ _ _ h => h) rfl hS (fun w hS => x_move (hF.tmp 2 rfl)) rfl ?_; clear hF; intro a hF
        refine r_take 8 hF rfl rfl rfl (by kernel_rfl) (by kernel_rfl) (by kernel_rfl) (fun _ _ _ h => h) rfl hS (fun w hS => x_move (hF.tmp 2 rfl)) rfl ?_; clear hF; intro a hF
        refine r_take 9 hF rfl rfl rfl (by kernel_rfl) (by kernel_rfl) (by kernel_rfl) (fun _ _ _ h => h) rfl hS (fun w hS => x_slice3 (E := (.int .u8)) Try.underlying42 ty5 (hF.tmp 35 rfl) (hF.tmp 36 rfl) (hF.tmp 37 rfl) (by omega) (Int.le_refl _) (by have := (hH.rd 2900 rfl).1; omega) (by omega)) rfl ?_; clear hF; intro a hF
        refine r_take 10 hF rfl rfl rfl (by kernel_rfl) (by kernel_rfl) (by kernel_rfl) (fun _ _ _ h => h) rfl hS (fun w hS => x_move (hF.tmp 2 rfl)) rfl ?_; clear hF; intro a hF
        refine r_take 11 hF rfl rfl rfl (by kernel_rfl) (by kernel_rfl) (by kernel_rfl) (fun _ _ _ h => h) rfl hS (fun w hS => x_buildS (cells := #[.slice Aa (((getM m n).1).take k.toNat).length k.toNat, .int .i64 k]) (places := #[(0, 1), (1, 1)]) Try.underlying108 ty108 (by kernel_rfl) (by simp only [List.map_toArray, List.map_cons, List.map_nil, hF.tmp 38 rfl, hF.tmp 39 rfl] <;> rfl) rfl) rfl ?_; clear hF; intro a hF
        refine r_do 12 rfl (by kernel_rfl) rfl rfl ?_
        refine w_mapSet 2 (k := n) (yv := ((((getM m n).1).take k.toNat), k)) (fun k => okm k ∨ (RdL [(1, .blk bd (.cells #[.map (some bm), .slice Ar rt.length cr] 106 (0, 0))), (2, .map KI SV bm m okm), (3, .rd_ (.int .u8) Ar rt cr okr)]) k) hH rfl Try.underlying104 Try.underlying3 (hF.tmp 32 rfl) (hF.tmp 33 rfl) (hF.tmp 40 rfl) (seg_mk (x := ((((getM m n).1).take k.toNat), k)) (((Rd.cap ((Rd.take ((hH.rd 2900 rfl)) k.toNat)) (by rw [List.length_take]; omega) (by have := ((hH.rd 2900 rfl)).1; omega))).move (fun _ _ _ => rfl) (fun k hk _ => ⟨.inr hk, fun e => hH.sep 2 2900 _ _ (by decide) rfl rfl k e (.inr hk)⟩))) (fun k hk => .inl hk) (fun k hk => hk.elim .inl (fun h => .inr ⟨2900, _, rfl, h⟩)) ?_
        clear hH; intro w hH
        clear hS; have hS : SL _ _ := SL.of hH (sub_cons (sub_cons (sub_cons (sub_nil _) 2900 rfl) 7 rfl) 1 rfl); refine ⟨hS, ?_⟩
        refine r_end (by kernel_rfl) ?_; clear hS
        refine hK9 _ _ ?_
        refine wp_seq_k fun khK10 hK10 => ?_
        refine wp_region_lit ?_
        refine l_at hF rfl rfl rfl (x_assign rfl) ?_; clear hF; intro a hF
        refine wpList_nil ?_
        refine hK10 _ _ ?_
        refine wp_ret ?_
        try simp only [Exit.then, Exit.inBlock]
        have hE_ := cut_yesE hyes hc22 hc19
        have hM_ := cut_yesM hyes hc22 hc19
        refine fin_ret hF (res1 hF rfl rfl) ⟨Asn.all [(1, .blk bd (.cells #[.map (some bm), .slice Ar rt.length cr] 106 (0, 0))), (2, .map KI SV bm (mput m n ((((getM m n).1).take k.toNat), k)) (fun k => okm k ∨ (RdL [(1, .blk bd (.cells #[.map (some bm), .slice Ar rt.length cr] 106 (0, 0))), (2, .map KI SV bm m okm), (3, .rd_ (.int .u8) Ar rt cr okr)]) k)), (3, .rd_ (.int .u8) Ar rt cr okr)], by rw [hE_] <;> rfl, by rw [hM_]; exact ⟨_, _, _, _, _, rfl⟩, grew_of (hH.sub [(1, .blk bd (.cells #[.map (some bm), .slice Ar rt.length cr] 106 (0, 0))), (2, .map KI SV bm (mput m n ((((getM m n).1).take k.toNat), k)) (fun k => okm k ∨ (RdL [(1, .blk bd (.cells #[.map (some bm), .slice Ar rt.length cr] 106 (0, 0))), (2, .map KI SV bm m okm), (3, .rd_ (.int .u8) Ar rt cr okr)]) k)), (3, .rd_ (.int .u8) Ar rt cr okr)] (sub_cons (sub_cons (sub_cons (sub_nil _) 3 rfl) 2 rfl) 1 rfl)) (rdin_cons (fun k h => h.elim) (rdin_cons (fun k h => by rcases h.1 with h1 | h1; exact .inr (.inl ⟨2, _, rfl, h1, h.2⟩); exact .inr (.inl h1)) (rdin_cons (fun k h => .inr (.inl ⟨3, _, rfl, h⟩)) rdin_nil)))⟩

set_option maxRecDepth 100000 in
set_option maxHeartbeats 1000000 in
theorem app_calls (w0 : World) {X : Asn} {bd : Nat} {m : DM} {rt : List Int} (hX : DiskA 106 bd m rt X) (hok : X.ok w0) (n : Int) {okb : Nat → Prop} {Ab : Option Addr} {bs : List Int} {cb : Nat} (hrb : Rd (.int .u8) w0 okb Ab bs cb) (hbin : ∀ k, okb k → k < w0.heap.size) (hbs : ∀ k, okb k → ¬ X.own k) : Calls Try.prog 22 #[.pointer (some ⟨bd, 0, none⟩), .int .i64 n, .slice Ab bs.length cb] w0 fun e w' => ∃ X', e = .returned (.int .i64 (appE m n bs)) ∧ DiskA 106 bd (appM m n bs) rt X' ∧ Grew (fun _ => False) (fun _ => False) X w0 w' X' := by
  obtain ⟨bm, Ar, cr, okm, okr, rfl⟩ := hX
  refine calls_of_wp Try.func22 rfl ?_
  have hF := Fr.enter #[.pointer (some ⟨bd, 0, none⟩), .int .i64 n, .slice Ab bs.length cb] 61 (slotsOf [.pointer (some ⟨bd, 0, none⟩), .int .i64 n, .slice Ab bs.length cb] 0) (Nat.le_of_ble_eq_true rfl) (fun i v h => by have h2 := (get_slotsOf _ 0 i v h).2; simpa only [List.getElem?_toArray, Nat.sub_zero] using h2)
  rw [Try.ntmps22]
  revert hF; generalize (⟨(#[.pointer (some ⟨bd, 0, none⟩), .int .i64 n, .slice Ab bs.length cb] : Array Value) ++ Array.replicate (61 - (#[.pointer (some ⟨bd, 0, none⟩), .int .i64 n, .slice Ab bs.length cb] : Array Value).size) undef, []⟩ : Act) = a; intro hF
  have hH := Hp.ofAll hok.holds
  have hlert := (hH.rd 3 rfl).le; unfold maxLen at hlert
  have hH := hH.readable 901 hrb hbin (fun i A_ hA k hk hk2 => hbs k hk2 ⟨i, A_, hA, hk⟩)
  have hlb := hrb.le; unfold maxLen at hlb
  refine wp_seq_k fun khK1 hK1 => ?_
  refine wp_region_lit ?_
  refine l_at hF rfl rfl rfl (x_assign rfl) ?_; clear hF; intro a hF
  refine wpList_nil ?_
  refine hK1 _ _ ?_
  refine wp_seq_k fun khK2 hK2 => ?_
  refine wp_seq_k fun khK3 hK3 => ?_
  refine wp_region_lit ?_
  refine l_at hF rfl rfl rfl (x_move (hF.tmp 0 rfl)) ?_; clear hF; intro a hF
  refine l_at hF rfl rfl rfl (x_ptrnil Try.underlying40 (hF.tmp 9 rfl) rfl) ?_; clear hF; intro a hF
  refine wpList_nil ?_
  refine hK3 _ _ ?_
  refine wp_cond_false (hF.tmp 10 rfl) ?_
  refine wp_skip ?_
  refine hK2 _ _ ?_
  refine wp_seq_k fun khK4 hK4 => ?_
  refine wp_region_lit ?_
  refine l_at hF rfl rfl rfl (x_move (hF.tmp 0 rfl)) ?_; clear hF; intro a hF
  refine l_at hF rfl rfl rfl (x_nil (hF.tmp 12 rfl)) ?_; clear hF; intro a hF
  refine l_at hF rfl rfl rfl (x_faddr Try.underlying106 rfl ty104 (by decide) (hF.tmp 13 rfl) rfl) ?_; clear hF; intro a hF
  refine l_at hF rfl rfl rfl (x_load1 ty104 (hF.tmp 14 rfl) (blk_cell (hH.at 1 rfl) 0 rfl)) ?_; clear hF; intro a hF
  refine l_at hF rfl rfl rfl (x_move (hF.tmp 1 rfl)) ?_; clear hF; intro a hF
  obtain ⟨vm17, hvm17, hlm17⟩ := (hH.map 2 rfl).look (P := Try.prog) Try.underlying104 Try.underlying3 ((ty108).zero _) seg_zero n
  replace hvm17 : SV.R _ _ (getM m n) _ := hvm17
  obtain ⟨A17, c17, rfl, hr17⟩ := seg_open hvm17
  have hH := hH.subrd 2 rfl 2017 hr17 (fun _ h => h)
  have hle17 := hr17.le; unfold maxLen at hle17
  refine l_at hF rfl rfl rfl (x_lookup hlm17 (hF.tmp 15 rfl) (hF.tmp 16 rfl)) ?_; clear hF; intro a hF
  refine l_at hF rfl rfl rfl (x_move (hF.tmp 17 rfl)) ?_; clear hF; intro a hF
  refine l_at hF rfl rfl rfl (x_extract (hF.tmp 11 rfl) rfl) ?_; clear hF; intro a hF
  refine l_at hF rfl rfl rfl (x_extract (hF.tmp 11 rfl) rfl) ?_; clear hF; intro a hF
  refine wpList_plain rfl fun K hK => ?_
  refine w_alloc 7 hF hH rfl ty108 ?_
  clear hF hH; intro a w b7 hF hH
  refine hK _ _ ?_; clear hK K
  refine wpList_plain rfl fun K hK => ?_
  refine w_storeA 7 hH ty108 rfl (hF.tmp 7 rfl) (hF.tmp 18 rfl) rfl (by simp [Value.cells, Value.oneCell']) rfl ?_
  clear hH; intro w hH
  refine hK _ _ ?_; clear hK K
  refine l_at hF rfl rfl rfl (x_assign (hF.tmp 19 rfl)) ?_; clear hF; intro a hF
  refine wpList_nil ?_
  refine hK4 _ _ ?_
  refine wp_seq_k fun khK5 hK5 => ?_
  refine wp_seq_k fun khK6 hK6 => ?_
  refine wp_region_lit ?_
  refine l_at hF rfl rfl rfl (x_move (hF.tmp 1 rfl)) ?_; clear hF; intro a hF
  refine l_at hF rfl rfl rfl (x_lss (hF.tmp 20 rfl) rfl) ?_; clear hF; intro a hF
  refine l_at hF rfl rfl rfl (x_move (hF.tmp 21 rfl)) ?_; clear hF; intro a hF
  refine split_bool hF 22 rfl (fun hb22 => ?_) (fun hb22 => ?_)
  · have hc22 := hb22; try simp only [Bool.or_eq_true, Bool.and_eq_true, Bool.or_eq_false_iff, Bool.and_eq_false_iff, Bool.not_eq_true', Bool.not_eq_false', decide_eq_true_eq, decide_eq_false_iff_not, Bool.not_true, Bool.not_false] at hc22
    have hno := app_neg (m := m) (b := bs) hc22
    refine l_offg hF ((wanted_of hF rfl rfl rfl rfl).trans (by rw [hb22]; rfl)) rfl rfl ?_; clear hF; intro a hF
    refine l_offg hF ((wanted_of hF rfl rfl rfl rfl).trans (by rw [hb22]; rfl)) rfl rfl ?_; clear hF; intro a hF
    refine l_offg hF ((wanted_of hF rfl rfl rfl rfl).trans (by rw [hb22]; rfl)) rfl rfl ?_; clear hF; intro a hF
    refine l_offg hF ((wanted_of hF rfl rfl rfl rfl).trans (by rw [hb22]; rfl)) rfl rfl ?_; clear hF; intro a hF
    refine l_offg hF ((wanted_of hF rfl rfl rfl rfl).trans (by rw [hb22]; rfl)) rfl rfl ?_; clear hF; intro a hF
    refine l_offg hF ((wanted_of hF rfl rfl rfl rfl).trans (by rw [hb22]; rfl)) rfl rfl ?_; clear hF; intro a hF
    refine l_offg hF ((wanted_of hF rfl rfl rfl rfl).trans (by rw [hb22]; rfl)) rfl rfl ?_; clear hF; intro a hF
    refine l_at hF rfl rfl rfl (x_pickT (hF.tmp 22 rfl) hb22 rfl) ?_; clear hF; intro a hF
    refine l_at hF rfl rfl rfl (x_move (hF.tmp 30 rfl)) ?_; clear hF; intro a hF
    refine l_offg hF ((wanted_of hF rfl rfl rfl rfl).trans rfl) rfl rfl ?_; clear hF; intro a hF
    refine l_offg hF ((wanted_of hF rfl rfl rfl rfl).trans rfl) rfl rfl ?_; clear hF; intro a hF
    refine l_offg hF ((wanted_of hF rfl rfl rfl rfl).trans rfl) rfl rfl ?_; clear hF; intro a hF
    refine l_offg hF (wanted_un hF rfl rfl rfl rfl) rfl rfl ?_; clear hF; intro a hF
    refine l_offg hF (wanted_un hF rfl rfl rfl rfl) rfl rfl ?_; clear hF; intro a hF
    refine l_offg hF (wanted_un hF rfl rfl rfl rfl) rfl rfl ?_; clear hF; intro a hF
    refine l_offg hF (wanted_un hF rfl rfl rfl rfl) rfl rfl ?_; clear hF; intro a hF
    refine l_offg hF (wanted_un hF rfl rfl rfl rfl) rfl rfl ?_; clear hF; intro a hF
    refine l_offg hF (wanted_un hF rfl rfl rfl rfl) rfl rfl ?_; clear hF; intro a hF
    refine l_offg hF ((wanted_of hF rfl rfl rfl rfl).trans rfl) rfl rfl ?_; clear hF; intro a hF
    refine l_at hF rfl rfl rfl (x_pickT (hF.tmp 31 rfl) rfl rfl) ?_; clear hF; intro a hF
    refine wpList_nil ?_
    refine hK6 _ _ ?_
    refine wp_cond_true (hF.tmp 42 rfl) ?_
    refine wp_seq_k fun khK7 hK7 => ?_
    refine wp_region_lit ?_
    refine l_at hF rfl rfl rfl (x_assign rfl) ?_; clear hF; intro a hF
    refine wpList_nil ?_
    refine hK7 _ _ ?_
    refine wp_ret ?_
    try simp only [Exit.then, Exit.inBlock]
    have hE_ := hno.1
    have hM_ := hno.2
    refine fin_ret hF (res1 hF rfl rfl) ⟨Asn.all [(1, .blk bd (.cells #[.map (some bm), .slice Ar rt.length cr] 106 (0, 0))), (2, .map KI SV bm m okm), (3, .rd_ (.int .u8) Ar rt cr okr)], by rw [hE_] <;> rfl, by rw [hM_]; exact ⟨_, _, _, _, _, rfl⟩, grew_of (hH.sub [(1, .blk bd (.cells #[.map (some bm), .slice Ar rt.length cr] 106 (0, 0))), (2, .map KI SV bm m okm), (3, .rd_ (.int .u8) Ar rt cr okr)] (sub_cons (sub_cons (sub_cons (sub_nil _) 3 rfl) 2 rfl) 1 rfl)) (rdin_cons (fun k h => h.elim) (rdin_cons (fun k h => .inr (.inl ⟨2, _, rfl, h⟩)) (rdin_cons (fun k h => .inr (.inl ⟨3, _, rfl, h⟩)) rdin_nil)))⟩
  · have hc22 := hb22; try simp only [Bool.or_eq_true, Bool.and_eq_true, Bool.or_eq_false_iff, Bool.and_eq_false_iff, Bool.not_eq_true', Bool.not_eq_false', decide_eq_true_eq, decide_eq_false_iff_not, Bool.not_true, Bool.not_false] at hc22
    refine l_atg hF ((wanted_of hF rfl rfl rfl rfl).trans (by rw [hb22]; rfl)) rfl rfl (x_move (hF.tmp 2 rfl)) ?_; clear hF; intro a hF
    refine l_atg hF ((wanted_of hF rfl rfl rfl rfl).trans (by rw [hb22]; rfl)) rfl rfl (x_len_slice Try.underlying42 (hF.tmp 23 rfl)) ?_; clear hF; intro a hF
    refine l_atg hF ((wanted_of hF rfl rfl rfl rfl).trans (by rw [hb22]; rfl)) rfl rfl (x_faddr Try.underlying108 rfl ty42 (by decide) (hF.tmp 7 rfl) rfl) ?_; clear hF; intro a hF
    refine l_atg hF ((wanted_of hF rfl rfl rfl rfl).trans (by rw [hb22]; rfl)) rfl rfl (x_load1 ty42 (hF.tmp 25 rfl) (blk_cell (hH.at 7 rfl) 0 rfl)) ?_; clear hF; intro a hF
    refine l_atg hF ((wanted_of hF rfl rfl rfl rfl).trans (by rw [hb22]; rfl)) rfl rfl (x_len_slice Try.underlying42 (hF.tmp 26 rfl)) ?_; clear hF; intro a hF
    refine l_atg hF ((wanted_of hF rfl rfl rfl rfl).trans (by rw [hb22]; rfl)) rfl rfl (x_sub rfl (hF.tmp 27 rfl) (w64 (by omega) (by omega))) ?_; clear hF; intro a hF
    refine l_atg hF ((wanted_of hF rfl rfl rfl rfl).trans (by rw [hb22]; rfl)) rfl rfl (x_gtr (hF.tmp 24 rfl) (hF.tmp 28 rfl)) ?_; clear hF; intro a hF
    refine l_at hF rfl rfl rfl (x_pickF (hF.tmp 22 rfl) hb22 (hF.tmp 29 rfl)) ?_; clear hF; intro a hF
    refine l_at hF rfl rfl rfl (x_move (hF.tmp 30 rfl)) ?_; clear hF; intro a hF
    refine split_bool hF 31 rfl (fun hb31 => ?_) (fun hb31 => ?_)
    · have hc31 := hb31; try simp only [Bool.or_eq_true, Bool.and_eq_true, Bool.or_eq_false_iff, Bool.and_eq_false_iff, Bool.not_eq_true', Bool.not_eq_false', decide_eq_true_eq, decide_eq_false_iff_not, Bool.not_true, Bool.not_false] at hc31
      have hno := app_long (m := m) (n := n) (b := bs) hc31
      refine l_offg hF ((wanted_of hF rfl rfl rfl rfl).trans (by rw [hb31]; rfl)) rfl rfl ?_; clear hF; intro a hF
      refine l_offg hF ((wanted_of hF rfl rfl rfl rfl).trans (by rw [hb31]; rfl)) rfl rfl ?_; clear hF; intro a hF
      refine l_offg hF ((wanted_of hF rfl rfl rfl rfl).trans (by rw [hb31]; rfl)) rfl rfl ?_; clear hF; intro a hF
      refine l_offg hF (wanted_un hF rfl rfl rfl rfl) rfl rfl ?_; clear hF; intro a hF
      refine l_offg hF (wanted_un hF rfl rfl rfl rfl) rfl rfl ?_; clear hF; intro a hF
      refine l_offg hF (wanted_un hF rfl rfl rfl rfl) rfl rfl ?_; clear hF; intro a hF
      refine l_offg hF (wanted_un hF rfl rfl rfl rfl) rfl rfl ?_; clear hF; intro a hF
      refine l_offg hF (wanted_un hF rfl rfl rfl rfl) rfl rfl ?_; clear hF; intro a hF
      refine l_offg hF (wanted_un hF rfl rfl rfl rfl) rfl rfl ?_; clear hF; intro a hF
      refine l_offg hF ((wanted_of hF rfl rfl rfl rfl).trans (by rw [hb31]; rfl)) rfl rfl ?_; clear hF; intro a hF
      refine l_at hF rfl rfl rfl (x_pickT (hF.tmp 31 rfl) hb31 rfl) ?_; clear hF; intro a hF
      refine wpList_nil ?_
      refine hK6 _ _ ?_
      refine wp_cond_true (hF.tmp 42 rfl) ?_
      refine wp_seq_k fun khK8 hK8 => ?_
      refine wp_region_lit ?_
      refine l_at hF rfl rfl rfl (x_assign rfl) ?_; clear hF; intro a hF
      refine wpList_nil ?_
      refine hK8 _ _ ?_
      refine wp_ret ?_
      try simp only [Exit.then, Exit.inBlock]
      have hE_ := hno.1
      have hM_ := hno.2
      refine fin_ret hF (res1 hF rfl rfl) ⟨Asn.all [(1, .blk bd (.cells #[.map (some bm), .slice Ar rt.length cr] 106 (0, 0))), (2, .map KI SV bm m okm), (3, .rd_ (.int .u8) Ar rt cr okr)], by rw [hE_] <;> rfl, by rw [hM_]; exact ⟨_, _, _, _, _, rfl⟩, grew_of (hH.sub [(1, .blk bd (.cells #[.map (some bm), .slice Ar rt.length cr] 106 (0, 0))), (2, .map KI SV bm m okm), (3, .rd_ (.int .u8) Ar rt cr okr)] (sub_cons (sub_cons (sub_cons (sub_nil _) 3 rfl) 2 rfl) 1 rfl)) (rdin_cons (fun k h => h.elim) (rdin_cons (fun k h => .inr (.inl ⟨2, _, rfl, h⟩)) (rdin_cons (fun k h => .inr (.inl ⟨3, _, rfl, h⟩)) rdin_nil)))⟩
    · have hc31 := hb31; try simp only [Bool.or_eq_true, Bool.and_eq_true, Bool.or_eq_false_iff, Bool.and_eq_false_iff, Bool.not_eq_true', Bool.not_eq_false', decide_eq_true_eq, decide_eq_false_iff_not, Bool.not_true, Bool.not_false] at hc31
      refine l_atg hF ((wanted_of hF rfl rfl rfl rfl).trans (by rw [hb31]; rfl)) rfl rfl (x_move (hF.tmp 8 rfl)) ?_; clear hF; intro a hF
      refine l_atg hF ((wanted_of hF rfl rfl rfl rfl).trans (by rw [hb31]; rfl)) rfl rfl (x_not (hF.tmp 32 rfl)) ?_; clear hF; intro a hF
      refine l_atg hF ((wanted_of hF rfl rfl rfl rfl).trans (by rw [hb31]; rfl)) rfl rfl (x_move (hF.tmp 33 rfl)) ?_; clear hF; intro a hF
      refine split_bool hF 34 rfl (fun hb34 => ?_) (fun hb34 => ?_)
      · have hc34 := hb34; try simp only [Bool.or_eq_true, Bool.and_eq_true, Bool.or_eq_false_iff, Bool.and_eq_false_iff, Bool.not_eq_true', Bool.not_eq_false', decide_eq_true_eq, decide_eq_false_iff_not, Bool.not_true, Bool.not_false] at hc34
        refine l_atg hF ((wanted_of hF rfl rfl rfl rfl).trans (by rw [hb34]; rfl)) rfl rfl (x_move (hF.tmp 0 rfl)) ?_; clear hF; intro a hF
        refine l_atg hF ((wanted_of hF rfl rfl rfl rfl).trans (by rw [hb34]; rfl)) rfl rfl (x_nil (hF.tmp 35 rfl)) ?_; clear hF; intro a hF
        refine l_atg hF ((wanted_of hF rfl rfl rfl rfl).trans (by rw [hb34]; rfl)) rfl rfl (x_faddr Try.underlying106 rfl ty104 (by decide) (hF.tmp 36 rfl) rfl) ?_; clear hF; intro a hF
        refine l_atg hF ((wanted_of hF rfl rfl rfl rfl).trans (by rw [hb34]; rfl)) rfl rfl (x_load1 ty104 (hF.tmp 37 rfl) (blk_cell (hH.at 1 rfl) 0 rfl)) ?_; clear hF; intro a hF
        refine l_atg hF ((wanted_of hF rfl rfl rfl rfl).trans (by rw [hb34]; rfl)) rfl rfl (x_len_map (hH.map 2 rfl) Try.underlying104 (hF.tmp 38 rfl)) ?_; clear hF; intro a hF
        refine l_atg hF ((wanted_of hF rfl rfl rfl rfl).trans (by rw [hb34]; rfl)) rfl rfl (x_geq (hF.tmp 39 rfl) rfl) ?_; clear hF; intro a hF
        refine l_atg hF ((wanted_of hF rfl rfl rfl rfl).trans (by rw [hb31]; rfl)) rfl rfl (x_pickT (hF.tmp 34 rfl) hb34 (hF.tmp 40 rfl)) ?_; clear hF; intro a hF
        refine l_at hF rfl rfl rfl (x_pickF (hF.tmp 31 rfl) hb31 (hF.tmp 41 rfl)) ?_; clear hF; intro a hF
        refine wpList_nil ?_
        refine hK6 _ _ ?_
        refine wp_cond_split (hF.tmp 42 rfl) (fun hc42 => ?_) (fun hc42 => ?_)
        · try simp only [Bool.or_eq_true, Bool.and_eq_true, Bool.or_eq_false_iff, Bool.and_eq_false_iff, Bool.not_eq_true', Bool.not_eq_false', decide_eq_true_eq, decide_eq_false_iff_not, Bool.not_true, Bool.not_false] at hc42
          have hno := app_many (m := m) (n := n) (b := bs) hc34 hc42
          refine wp_seq_k fun khK9 hK9 => ?_
          refine wp_region_lit ?_
          refine l_at hF rfl rfl rfl (x_assign rfl) ?_; clear hF; intro a hF
          refine wpList_nil ?_
          refine hK9 _ _ ?_
          refine wp_ret ?_
          try simp only [Exit.then, Exit.inBlock]
          have hE_ := hno.1
          have hM_ := hno.2
          refine fin_ret hF (res1 hF rfl rfl) ⟨Asn.all [(1, .blk bd (.cells #[.map (some bm), .slice Ar rt.length cr] 106 (0, 0))), (2, .map KI SV bm m okm), (3, .rd_ (.int .u8) Ar rt cr okr)], by rw [hE_] <;> rfl, by rw [hM_]; exact ⟨_, _, _, _, _, rfl⟩, grew_of (hH.sub [(1, .blk bd (.cells #[.map (some bm), .slice Ar rt.length cr] 106 (0, 0))), (2, .map KI SV bm m okm), (3, .rd_ (.int .u8) Ar rt cr okr)] (sub_cons (sub_cons (sub_cons (sub_nil _) 3 rfl) 2 rfl) 1 rfl)) (rdin_cons (fun k h => h.elim) (rdin_cons (fun k h => .inr (.inl ⟨2, _, rfl, h⟩)) (rdin_cons (fun k h => .inr (.inl ⟨3, _, rfl, h⟩)) rdin_nil)))⟩
        · try simp only [Bool.or_eq_true, Bool.and_eq_true, Bool.or_eq_false_iff, Bool.and_eq_false_iff, Bool.not_eq_true', Bool.not_eq_false', decide_eq_true_eq, decide_eq_false_iff_not, Bool.not_true, Bool.not_false] at hc42
          have hyes := app_on (m := m) (n := n) (b := bs) hc22 hc31 (.inr hc42)
          refine wp_skip ?_
          refine hK5 _ _ ?_
          refine wp_seq_k fun khK10 hK10 => ?_
          refine wp_region_lit ?_
          refine l_at hF rfl rfl rfl (x_faddr Try.underlying108 rfl ty42 (by decide) (hF.tmp 7 rfl) rfl) ?_; clear hF; intro a hF
          refine l_at hF rfl rfl rfl (x_load1 ty42 (hF.tmp 43 rfl) (blk_cell (hH.at 7 rfl) 0 rfl)) ?_; clear hF; intro a hF
          refine l_at hF rfl rfl rfl (x_faddr Try.underlying108 rfl ty42 (by decide) (hF.tmp 7 rfl) rfl) ?_; clear hF; intro a hF
          refine l_at hF rfl rfl rfl (x_load1 ty42 (hF.tmp 45 rfl) (blk_cell (hH.at 7 rfl) 0 rfl)) ?_; clear hF; intro a hF
          refine l_at hF rfl rfl rfl (x_len_slice Try.underlying42 (hF.tmp 46 rfl)) ?_; clear hF; intro a hF
          refine l_at hF rfl rfl rfl (x_faddr Try.underlying108 rfl ty42 (by decide) (hF.tmp 7 rfl) rfl) ?_; clear hF; intro a hF
          refine l_at hF rfl rfl rfl (x_load1 ty42 (hF.tmp 48 rfl) (blk_cell (hH.at 7 rfl) 0 rfl)) ?_; clear hF; intro a hF
          refine l_at hF rfl rfl rfl (x_len_slice Try.underlying42 (hF.tmp 49 rfl)) ?_; clear hF; intro a hF
          refine l_at hF rfl rfl rfl (x_slice3 (E := (.int .u8)) Try.underlying42 ty5 (hF.tmp 44 rfl) (hF.tmp 47 rfl) (hF.tmp 50 rfl) (by omega) (Int.le_refl _) (by have := (hH.rd 2017 rfl).1; omega) (Int.le_refl _)) ?_; clear hF; intro a hF
          refine l_at hF rfl rfl rfl (x_move (hF.tmp 2 rfl)) ?_; clear hF; intro a hF
          have hmw := hH.mods
          refine wpList_plain rfl fun K hK => ?_
          refine w_appendFull 53 2017 hF hH rfl Try.underlying42 ty5 rfl rfl (rd_full (hH.rd 2017 rfl)) (fun _ h => h) (hH.rd 901 rfl) (full_eval (hF.tmp 51 rfl)) (hF.tmp 52 rfl) (by omega) (by unfold maxLen; omega) ?_
          clear hF hH; intro a w A53 c53 okn hF hokn hH
          refine hK _ _ ?_; clear hK K
          refine l_at hF rfl rfl rfl (x_faddr Try.underlying108 rfl ty42 (by decide) (hF.tmp 7 rfl) rfl) ?_; clear hF; intro a hF
          refine wpList_plain rfl fun K hK => ?_
          refine w_store 7 hH ty42 rfl (hF.tmp 54 rfl) (hF.tmp 53 rfl) rfl (one1 rfl rfl) (by first | decide | exact Nat.le_of_ble_eq_true rfl) ?_
          clear hH; intro w hH
          refine hK _ _ ?_; clear hK K
          refine wpList_nil ?_
          refine hK10 _ _ ?_
          refine wp_seq_k fun khK11 hK11 => ?_
          refine r_start [(1, .blk bd (.cells #[.map (some bm), .slice Ar rt.length cr] 106 (0, 0))), (7, .blk b7 (.cells #[.slice A53 ((getM m n).1 ++ bs).length c53, .int .i64 (getM m n).2] 108 (0, 0)))] (by kernel_rfl) hH fun hH => ?_
          have hS : SL [(1, .blk bd (.cells #[.map (some bm), .slice Ar rt.length cr] 106 (0, 0))), (7, .blk b7 (.cells #[.slice A53 ((getM m n).1 ++ bs).length c53, .int .i64 (getM m n).2] 108 (0, 0)))] _ := SL.of hH (sub_cons (sub_cons (sub_nil _) 7 rfl) 1 rfl)
          refine r_take 0 hF rfl rfl rfl (by kernel_rfl) (by kernel_rfl) (by kernel_rfl) (fun _ _ _ h => h) rfl hS (fun w hS => x_move (hF.tmp 0 rfl)) rfl ?_; clear hF; intro a hF
          refine r_take 1 hF rfl rfl rfl (by kernel_rfl) (by kernel_rfl) (by kernel_rfl) (fun _ _ _ h => h) rfl hS (fun w hS => x_nil (hF.tmp 55 rfl)) rfl ?_; clear hF; intro a hF
          refine r_take 2 hF rfl rfl rfl (by kernel_rfl) (by kernel_rfl) (by kernel_rfl) (fun _ _ _ h => h) rfl hS (fun w hS => x_faddr Try.underlying106 rfl ty104 (by decide) (hF.tmp 56 rfl) rfl) rfl ?_; clear hF; intro a hF
          refine r_take 3 hF rfl rfl rfl (by kernel_rfl) (by kernel_rfl) (by kernel_rfl) (fun _ _ _ h => h) rfl hS (fun w hS => x_load1 ty104 (hF.tmp 57 rfl) (blk_cell (SL.at_ hS 1 rfl) 0 rfl)) rfl ?_; clear hF; intro a hF
          refine r_take 4 hF rfl rfl rfl (by kernel_rfl) (by kernel_rfl) (by kernel_rfl) (fun _ _ _ h => h) rfl hS (fun w hS => x_move (hF.tmp 1 rfl)) rfl ?_; clear hF; intro a hF
          refine r_take 5 hF rfl rfl rfl (by kernel_rfl) (by kernel_rfl) (by kernel_rfl) (fun _ _ _ h => h) rfl hS (fun w hS => x_loadn ty108 (hF.tmp 7 rfl) rfl (blk_whole (SL.at_ hS 7 rfl))) rfl ?_; clear hF; intro a hF
          refine r_do 6 rfl (by kernel_rfl) rfl rfl ?_
          refine w_mapSet 2 (k := n) (yv := (((getM m n).1 ++ bs), (getM m n).2)) (fun k => okm k ∨ okn k) hH rfl Try.underlying104 Try.underlying3 (hF.tmp 58 rfl) (hF.tmp 59 rfl) (hF.tmp 60 rfl) (seg_mk (x := (((getM m n).1 ++ bs), (getM m n).2)) (((hH.rd 53 rfl)).move (fun _ _ _ => rfl) (fun k hk _ => ⟨.inr hk, fun e => hH.sep 2 53 _ _ (by decide) rfl rfl k e (.inr hk)⟩))) (fun k hk => .inl hk) (fun k hk => hk.elim .inl (fun h => .inr ⟨53, _, rfl, h⟩)) ?_
          clear hH; intro w hH
          clear hS; have hS : SL _ _ := SL.of hH (sub_cons (sub_cons (sub_nil _) 7 rfl) 1 rfl); refine ⟨hS, ?_⟩
          refine r_end (by kernel_rfl) ?_; clear hS
          refine hK11 _ _ ?_
          refine wp_seq_k fun khK12 hK12 => ?_
          refine wp_region_lit ?_
          refine l_at hF rfl rfl rfl (x_assign rfl) ?_; clear hF; intro a hF
          refine wpList_nil ?_
          refine hK12 _ _ ?_
          refine wp_ret ?_
          try simp only [Exit.then, Exit.inBlock]
          have hE_ := hyes.1
          have hM_ := hyes.2
          refine fin_ret hF (res1 hF rfl rfl) ⟨Asn.all [(1, .blk bd (.cells #[.map (some bm), .slice Ar rt.length cr] 106 (0, 0))), (2, .map KI SV bm (mput m n (((getM m n).1 ++ bs), (getM m n).2)) (fun k => okm k ∨ okn k)), (3, .rd_ (.int .u8) Ar rt cr okr)], by rw [hE_] <;> rfl, by rw [hM_]; exact ⟨_, _, _, _, _, rfl⟩, grew_of (hH.sub [(1, .blk bd (.cells #[.map (some bm), .slice Ar rt.length cr] 106 (0, 0))), (2, .map KI SV bm (mput m n (((getM m n).1 ++ bs), (getM m n).2)) (fun k => okm k ∨ okn k)), (3, .rd_ (.int .u8) Ar rt cr okr)] (sub_cons (sub_cons (sub_cons (sub_nil _) 3 rfl) 2 rfl) 1 rfl)) (rdin_cons (fun k h => h.elim) (rdin_cons (fun k h => by rcases h.1 with h1 | h1; exact .inr (.inl ⟨2, _, rfl, h1, h.2⟩); rcases hokn k h1 with h2 | h2; exact .inr (.inl ⟨2, _, rfl, h2⟩); exact .inr (.inr (.inr (Nat.le_trans hmw.size h2)))) (rdin_cons (fun k h => .inr (.inl ⟨3, _, rfl, h⟩)) rdin_nil)))⟩
      · have hc34 := hb34; try simp only [Bool.or_eq_true, Bool.and_eq_true, Bool.or_eq_false_iff, Bool.and_eq_false_iff, Bool.not_eq_true', Bool.not_eq_false', decide_eq_true_eq, decide_eq_false_iff_not, Bool.not_true, Bool.not_false] at hc34
        have hyes := app_on (m := m) (n := n) (b := bs) hc22 hc31 (.inl hc34)
        refine l_offg hF ((wanted_of hF rfl rfl rfl rfl).trans (by rw [hb34]; rfl)) rfl rfl ?_; clear hF; intro a hF
        refine l_offg hF ((wanted_of hF rfl rfl rfl rfl).trans (by rw [hb34]; rfl)) rfl rfl ?_; clear hF; intro a hF
        refine l_offg hF ((wanted_of hF rfl rfl rfl rfl).trans (by rw [hb34]; rfl)) rfl rfl ?_; clear hF; intro a hF
        refine l_offg hF ((wanted_of hF rfl rfl rfl rfl).trans (by rw [hb34]; rfl)) rfl rfl ?_; clear hF; intro a hF
        refine l_offg hF ((wanted_of hF rfl rfl rfl rfl).trans (by rw [hb34]; rfl)) rfl rfl ?_; clear hF; intro a hF
        refine l_offg hF ((wanted_of hF rfl rfl rfl rfl).trans (by rw [hb34]; rfl)) rfl rfl ?_; clear hF; intro a hF
        refine l_atg hF ((wanted_of hF rfl rfl rfl rfl).trans (by rw [hb31]; rfl)) rfl rfl (x_pickF (hF.tmp 34 rfl) hb34 rfl) ?_; clear hF; intro a hF
        refine l_at hF rfl rfl rfl (x_pickF (hF.tmp 31 rfl) hb31 (hF.tmp 41 rfl)) ?_; clear hF; intro a hF
        refine wpList_nil ?_
        refine hK6 _ _ ?_
        refine wp_cond_false (hF.tmp 42 rfl) ?_
        refine wp_skip ?_
        refine hK5 _ _ ?_
        refine wp_seq_k fun khK13 hK13 => ?_
        refine wp_region_lit ?_
        refine l_at hF rfl rfl rfl (x_faddr Try.underlying108 rfl ty42 (by decide) (hF.tmp 7 rfl) rfl) ?_; clear hF; intro a hF
        refine l_at hF rfl rfl rfl (x_load1 ty42 (hF.tmp 43 rfl) (blk_cell (hH.at 7 rfl) 0 rfl)) ?_; clear hF; intro a hF
        refine l_at hF rfl rfl rfl (x_faddr Try.underlying108 rfl ty42 (by decide) (hF.tmp 7 rfl) rfl) ?_; clear hF; intro a hF
        refine l_at hF rfl rfl rfl (x_load1 ty42 (hF.tmp 45 rfl) (blk_cell (hH.at 7 rfl) 0 rfl)) ?_; clear hF; intro a hF
        refine l_at hF rfl rfl rfl (x_len_slice Try.underlying42 (hF.tmp 46 rfl)) ?_; clear hF; intro a hF
        refine l_at hF rfl rfl rfl (x_faddr Try.underlying108 rfl ty42 (by decide) (hF.tmp 7 rfl) rfl) ?_; clear hF; intro a hF
        refine l_at hF rfl rfl rfl (x_load1 ty42 (hF.tmp 48 rfl) (blk_cell (hH.at 7 rfl) 0 rfl)) ?_; clear hF; intro a hF
        refine l_at hF rfl rfl rfl (x_len_slice Try.underlying42 (hF.tmp 49 rfl)) ?_; clear hF; intro a hF
        refine l_at hF rfl rfl rfl (x_slice3 (E := (.int .u8)) Try.underlying42 ty5 (hF.tmp 44 rfl) (hF.tmp 47 rfl) (hF.tmp 50 rfl) (by omega) (Int.le_refl _) (by have := (hH.rd 2017 rfl).1; omega) (Int.le_refl _)) ?_; clear hF; intro a hF
        refine l_at hF rfl rfl rfl (x_move (hF.tmp 2 rfl)) ?_; clear hF; intro a hF
        have hmw := hH.mods
        refine wpList_plain rfl fun K hK => ?_
        refine w_appendFull 53 2017 hF hH rfl Try.underlying42 ty5 rfl rfl (rd_full (hH.rd 2017 rfl)) (fun _ h => h) (hH.rd 901 rfl) (full_eval (hF.tmp 51 rfl)) (hF.tmp 52 rfl) (by omega) (by unfold maxLen; omega) ?_
        clear hF hH; intro a w A53 c53 okn hF hokn hH
        refine hK _ _ ?_; clear hK K
        refine l_at hF rfl rfl rfl (x_faddr Try.underlying108 rfl ty42 (by decide) (hF.tmp 7 rfl) rfl) ?_; clear hF; intro a hF
        refine wpList_plain rfl fun K hK => ?_
        refine w_store 7 hH ty42 rfl (hF.tmp 54 rfl) (hF.tmp 53 rfl) rfl (one1 rfl rfl) (by first | decide | exact Nat.le_of_ble_eq_true rfl) ?_
        clear hH; intro w hH
        refine hK _ _ ?_; clear hK K
        refine wpList_nil ?_
        refine hK13 _ _ ?_
        refine wp_seq_k fun khK14 hK14 => ?_
        refine r_start [(1, .blk bd (.cells #[.map (some bm), .slice Ar rt.length cr] 106 (0, 0))), (7, .blk b7 (.cells #[.slice A53 ((getM m n).1 ++ bs).length c53, .int .i64 (getM m n).2] 108 (0, 0)))] (by kernel_rfl) hH fun hH => ?_
        have hS : SL [(1, .blk bd (.cells #[.map (some bm), .slice Ar rt.length cr] 106 (0, 0))), (7, .blk b7 (.cells #[.slice A53 ((getM m n).1 ++ bs).length c53, .int .i64 (getM m n).2] 108 (0, 0)))] _ := SL.of hH (sub_cons (sub_cons (sub_nil _) 7 rfl) 1 rfl)
        refine r_take 0 hF rfl rfl rfl (by kernel_rfl) (by kernel_rfl) (by kernel_rfl) (fun _ _ _ h => h) rfl hS (fun w hS => x_move (hF.tmp 0 rfl)) rfl ?_; clear hF; intro a hF
        refine r_take 1 hF rfl rfl rfl (by kernel_rfl) (by kernel_rfl) (by kernel_rfl) (fun _ _ _ h => h) rfl hS (fun w hS => x_nil (hF.tmp 55 rfl)) rfl ?_; clear hF; intro a hF
        refine r_take 2 hF rfl rfl rfl (by kernel_rfl) (by kernel_rfl) (by kernel_rfl) (fun _ _ _ h => h) rfl hS (fun w hS => x_faddr Try.underlying106 rfl ty104 (by decide) (hF.tmp 56 rfl) rfl) rfl ?_; clear hF; intro a hF
        refine r_take 3 hF rfl rfl rfl (by kernel_rfl) (by kernel_rfl) (by kernel_rfl) (fun _ _ _ h => h) rfl hS (fun w hS => x_load1 ty104 (hF.tmp 57 rfl) (blk_cell (SL.at_ hS 1 rfl) 0 rfl)) rfl ?_; clear hF; intro a hF
        refine r_take 4 hF rfl rfl rfl (by kernel_rfl) (by kernel_rfl) (by kernel_rfl) (fun _ _ _ h => h) rfl hS (fun w hS => x_move (hF.tmp 1 rfl)) rfl ?_; clear hF; intro a hF
        refine r_take 5 hF rfl rfl rfl (by kernel_rfl) (by kernel_rfl) (by kernel_rfl) (fun _ _ _ h => h) rfl hS (fun w hS => x_loadn ty108 (hF.tmp 7 rfl) rfl (blk_whole (SL.at_ hS 7 rfl))) rfl ?_; clear hF; intro a hF
        refine r_do 6 rfl (by kernel_rfl) rfl rfl ?_
        refine w_mapSet 2 (k := n) (yv := (((getM m n).1 ++ bs), (getM m n).2)) (fun k => okm k ∨ okn k) hH rfl Try.underlying104 Try.underlying3 (hF.tmp 58 rfl) (hF.tmp 59 rfl) (hF.tmp 60 rfl) (seg_mk (x := (((getM m n).1 ++ bs), (getM m n).2)) (((hH.rd 53 rfl)).move (fun _ _ _ => rfl) (fun k hk _ => ⟨.inr hk, fun e => hH.sep 2 53 _ _ (by decide) rfl rfl k e (.inr hk)⟩))) (fun k hk => .inl hk) (fun k hk => hk.elim .inl (fun h => .inr ⟨53, _, rfl, h⟩)) ?_
        clear hH; intro w hH
        clear hS; have hS : SL _ _ := SL.of hH (sub_cons (sub_cons (sub_nil _) 7 rfl) 1 rfl); refine ⟨hS, ?_⟩
        refine r_end (by kernel_rfl) ?_; clear hS
        refine hK14 _ _ ?_
        refine wp_seq_k fun khK15 hK15 => ?_
        refine wp_region_lit ?_
        refine l_at hF rfl rfl rfl (x_assign rfl) ?_; clear hF; intro a hF
        refine wpList_nil ?_
        refine hK15 _ _ ?_
        refine wp_ret ?_
        try simp only [Exit.then, Exit.inBlock]
        have hE_ := hyes.1
        have hM_ := hyes.2
        refine fin_ret hF (res1 hF rfl rfl) ⟨Asn.all [(1, .blk bd (.cells #[.map (some bm), .slice Ar rt.length cr] 106 (0, 0))), (2, .map KI SV bm (mput m n (((getM m n).1 ++ bs), (getM m n).2)) (fun k => okm k ∨ okn k)), (3, .rd_ (.int .u8) Ar rt cr okr)], by rw [hE_] <;> rfl, by rw [hM_]; exact ⟨_, _, _, _, _, rfl⟩, grew_of (hH.sub [(1, .blk bd (.cells #[.map (some bm), .slice Ar rt.length cr] 106 (0, 0))), (2, .map KI SV bm (mput m n (((getM m n).1 ++ bs), (getM m n).2)) (fun k => okm k ∨ okn k)), (3, .rd_ (.int .u8) Ar rt cr okr)] (sub_cons (sub_cons (sub_cons (sub_nil _) 3 rfl) 2 rfl) 1 rfl)) (rdin_cons (fun k h => h.elim) (rdin_cons (fun k h => by rcases h.1 with h1 | h1; exact .inr (.inl ⟨2, _, rfl, h1, h.2⟩); rcases hokn k h1 with h2 | h2; exact .inr (.inl ⟨2, _, rfl, h2⟩); exact .inr (.inr (.inr (Nat.le_trans hmw.size h2)))) (rdin_cons (fun k h => .inr (.inl ⟨3, _, rfl, h⟩)) rdin_nil)))⟩

set_option maxRecDepth 100000 in
set_option maxHeartbeats 1000000 in
theorem root_calls (w0 : World) {X : Asn} {bd : Nat} {m : DM} {rt : List Int} (hX : DiskA 106 bd m rt X) (hok : X.ok w0) (hrt : rt.length ≤ 100000000) : Calls Try.prog 30 #[.pointer (some ⟨bd, 0, none⟩)] w0 fun e w' => ∃ v, e = .returned v ∧ Mods (fun _ => False) w0 w' ∧ RowOut (.int .u8) 5 w0 w' v rt := by
  obtain ⟨bm, Ar, cr, okm, okr, rfl⟩ := hX
  refine calls_of_wp Try.func30 rfl ?_
  have hF := Fr.enter #[.pointer (some ⟨bd, 0, none⟩)] 10 (slotsOf [.pointer (some ⟨bd, 0, none⟩)] 0) (Nat.le_of_ble_eq_true rfl) (fun i v h => by have h2 := (get_slotsOf _ 0 i v h).2; simpa only [List.getElem?_toArray, Nat.sub_zero] using h2)
  rw [Try.ntmps30]
  revert hF; generalize (⟨(#[.pointer (some ⟨bd, 0, none⟩)] : Array Value) ++ Array.replicate (10 - (#[.pointer (some ⟨bd, 0, none⟩)] : Array Value).size) undef, []⟩ : Act) = a; intro hF
  have hH := disk_ro hok.holds
  have hlert := (hH.rd 3 rfl).le; unfold maxLen at hlert
  refine wp_seq_k fun khK1 hK1 => ?_
  refine wp_region_lit ?_
  refine l_at hF rfl rfl rfl (x_assign rfl) ?_; clear hF; intro a hF
  refine wpList_nil ?_
  refine hK1 _ _ ?_
  refine wp_seq_k fun khK2 hK2 => ?_
  refine wp_seq_k fun khK3 hK3 => ?_
  refine wp_region_lit ?_
  refine l_at hF rfl rfl rfl (x_move (hF.tmp 0 rfl)) ?_; clear hF; intro a hF
  refine l_at hF rfl rfl rfl (x_ptrnil Try.underlying40 (hF.tmp 3 rfl) rfl) ?_; clear hF; intro a hF
  refine wpList_nil ?_
  refine hK3 _ _ ?_
  refine wp_cond_false (hF.tmp 4 rfl) ?_
  refine wp_skip ?_
  refine hK2 _ _ ?_
  refine wp_seq_k fun khK4 hK4 => ?_
  refine wp_region_lit ?_
  refine l_at hF rfl rfl rfl (x_move (hF.tmp 0 rfl)) ?_; clear hF; intro a hF
  refine l_at hF rfl rfl rfl (x_nil (hF.tmp 5 rfl)) ?_; clear hF; intro a hF
  refine l_at hF rfl rfl rfl (x_faddr Try.underlying106 rfl ty42 (by decide) (hF.tmp 6 rfl) rfl) ?_; clear hF; intro a hF
  refine l_at hF rfl rfl rfl (x_load1 ty42 (hF.tmp 7 rfl) (blk_cell (hH.atro 1 rfl) 1 rfl)) ?_; clear hF; intro a hF
  refine wpList_plain rfl fun K hK => ?_
  refine w_call hF (x_enter Try.func68 (by kernel_rfl) rfl (by simp only [List.map_toArray, List.map_cons, List.map_nil, hF.tmp 8 rfl] <;> rfl)) (clone_calls _ ((hH.rd 3 rfl)) (hrt)) rfl rfl ?_
  rintro _ w ⟨vr9, rfl, hm_, hr_⟩; refine ⟨_, rfl, ?_⟩; clear hF; intro a hF; have hH := Hp.rowOut hH 9 hm_ hr_; obtain ⟨Ar9, cr9, rfl⟩ := (hH.row 9 rfl).form
  refine hK _ _ ?_; clear hK K
  refine l_at hF rfl rfl rfl (x_assign (hF.tmp 9 rfl)) ?_; clear hF; intro a hF
  refine wpList_nil ?_
  refine hK4 _ _ ?_
  refine wp_ret ?_
  try simp only [Exit.then, Exit.inBlock]
  exact fin_ret hF (res1 hF rfl rfl) ⟨_, rfl, hH.mods, Hp.out hH 9 rfl⟩

set_option maxRecDepth 100000 in
set_option maxHeartbeats 1000000 in
theorem new_calls (w0 : World) : Calls Try.prog 20 #[] w0 fun e w' => ∃ bd X, e = .returned (.pointer (some ⟨bd, 0, none⟩)) ∧ DiskA 106 bd [] [] X ∧ X.ok w' ∧ Mods (fun _ => False) w0 w' ∧ (∀ k, X.own k → w0.heap.size ≤ k) ∧ ∀ k, X.rd k → False := by
  refine calls_of_wp Try.func20 rfl ?_
  have hF := Fr.enter #[] 4 (slotsOf [] 0) (Nat.le_of_ble_eq_true rfl) (fun i v h => by have h2 := (get_slotsOf _ 0 i v h).2; simpa only [List.getElem?_toArray, Nat.sub_zero] using h2)
  have hH := Hp.nil (fun _ => False) w0
  rw [Try.ntmps20]
  revert hF; generalize (⟨(#[] : Array Value) ++ Array.replicate (4 - (#[] : Array Value).size) undef, []⟩ : Act) = a; intro hF
  refine wp_seq_k fun khK1 hK1 => ?_
  refine wp_region_lit ?_
  refine l_at hF rfl rfl rfl (x_assign rfl) ?_; clear hF; intro a hF
  refine wpList_nil ?_
  refine hK1 _ _ ?_
  refine wp_seq_k fun khK2 hK2 => ?_
  refine wp_region_lit ?_
  refine wpList_plain rfl fun K hK => ?_
  refine w_makeMap KI SV 2 hF hH rfl ?_
  clear hF hH; intro a w b1 hF hH
  refine hK _ _ ?_; clear hK K
  refine l_at hF rfl rfl rfl (x_buildS (cells := #[.map (some b1), .slice none 0 0]) (places := #[(0, 1), (1, 1)]) Try.underlying106 ty106 (by kernel_rfl) (by simp only [List.map_toArray, List.map_cons, List.map_nil, hF.tmp 1 rfl] <;> rfl) rfl) ?_; clear hF; intro a hF
  refine wpList_plain rfl fun K hK => ?_
  refine w_box 1 hF hH rfl (hF.tmp 2 rfl) ?_
  clear hF hH; intro a w b3 hF hH
  refine hK _ _ ?_; clear hK K
  refine l_at hF rfl rfl rfl (x_assign (hF.tmp 3 rfl)) ?_; clear hF; intro a hF
  refine wpList_nil ?_
  refine hK2 _ _ ?_
  refine wp_ret ?_
  try simp only [Exit.then, Exit.inBlock]
  have hH := Hp.rdnil hH 3 (.int .u8)
  have hl := hH.sub [(1, .blk b3 (.cells #[.map (some b1), .slice none 0 0] 106 (0, 0))), (2, .map KI SV b1 [] (fun _ => False)), (3, .rd_ (.int .u8) none [] 0 (fun _ => False))] (sub_cons (sub_cons (sub_cons (sub_nil _) 3 rfl) 2 rfl) 1 rfl)
  exact fin_ret hF (res1 hF rfl rfl) ⟨b3, _, rfl, ⟨_, _, _, _, _, rfl⟩, hl.okAll, hl.mods, own_cons (fun k hk => (hl.mine 1 _ rfl k hk).resolve_left (fun h => h)) (own_cons (fun k hk => (hl.mine 2 _ rfl k hk).resolve_left (fun h => h)) (own_cons (fun k hk => hk.elim) own_nil)), rdin_cons (fun k h => h.elim) (rdin_cons (fun k h => h.1.elim) (rdin_cons (fun k h => h.elim) rdin_nil))⟩

set_option maxRecDepth 100000 in
set_option maxHeartbeats 1000000 in
theorem swap_calls (w0 : World) {X : Asn} {bd : Nat} {m : DM} {rt : List Int} (hX : DiskA 106 bd m rt X) (hok : X.ok w0) {okb : Nat → Prop} {Ab : Option Addr} {bs : List Int} {cb : Nat} (hrb : Rd (.int .u8) w0 okb Ab bs cb) (hbin : ∀ k, okb k → k < w0.heap.size) (hbs : ∀ k, okb k → ¬ X.own k) : Calls Try.prog 28 #[.pointer (some ⟨bd, 0, none⟩), .slice Ab bs.length cb] w0 fun e w' => ∃ X', e = .returned (.int .i64 (swapE bs)) ∧ DiskA 106 bd m (swapR rt bs) X' ∧ Grew (fun _ => False) (fun _ => False) X w0 w' X' := by
  obtain ⟨bm, Ar, cr, okm, okr, rfl⟩ := hX
  refine calls_of_wp Try.func28 rfl ?_
  have hF := Fr.enter #[.pointer (some ⟨bd, 0, none⟩), .slice Ab bs.length cb] 17 (slotsOf [.pointer (some ⟨bd, 0, none⟩), .slice Ab bs.length cb] 0) (Nat.le_of_ble_eq_true rfl) (fun i v h => by have h2 := (get_slotsOf _ 0 i v h).2; simpa only [List.getElem?_toArray, Nat.sub_zero] using h2)
  rw [Try.ntmps28]
  revert hF; generalize (⟨(#[.pointer (some ⟨bd, 0, none⟩), .slice Ab bs.length cb] : Array Value) ++ Array.replicate (17 - (#[.pointer (some ⟨bd, 0, none⟩), .slice Ab bs.length cb] : Array Value).size) undef, []⟩ : Act) = a; intro hF
  have hH := Hp.ofAll hok.holds
  have hlert := (hH.rd 3 rfl).le; unfold maxLen at hlert
  have hH := hH.readable 901 hrb hbin (fun i A_ hA k hk hk2 => hbs k hk2 ⟨i, A_, hA, hk⟩)
  refine wp_seq_k fun khK1 hK1 => ?_
  refine wp_region_lit ?_
  refine l_at hF rfl rfl rfl (x_assign rfl) ?_; clear hF; intro a hF
  refine wpList_nil ?_
  refine hK1 _ _ ?_
  refine wp_seq_k fun khK2 hK2 => ?_
  refine wp_block ?_
  refine wp_seq_k fun khK3 hK3 => ?_
  refine wp_region_lit ?_
  refine l_at hF rfl rfl rfl (x_move (hF.tmp 0 rfl)) ?_; clear hF; intro a hF
  refine l_at hF rfl rfl rfl (x_ptrnil Try.underlying40 (hF.tmp 6 rfl) rfl) ?_; clear hF; intro a hF
  refine l_at hF rfl rfl rfl (x_assign (hF.tmp 7 rfl)) ?_; clear hF; intro a hF
  refine wpList_nil ?_
  refine hK3 _ _ ?_
  refine wp_cond_false (hF.tmp 5 rfl) ?_
  refine wp_seq_k fun khK4 hK4 => ?_
  refine wp_region_lit ?_
  refine l_at hF rfl rfl rfl (x_move (hF.tmp 1 rfl)) ?_; clear hF; intro a hF
  refine l_at hF rfl rfl rfl (x_len_slice Try.underlying42 (hF.tmp 9 rfl)) ?_; clear hF; intro a hF
  refine l_at hF rfl rfl rfl (x_gtr (hF.tmp 10 rfl) rfl) ?_; clear hF; intro a hF
  refine l_at hF rfl rfl rfl (x_assign (hF.tmp 11 rfl)) ?_; clear hF; intro a hF
  refine wpList_nil ?_
  refine hK4 _ _ ?_
  refine wp_cond_split (hF.tmp 8 rfl) (fun hc8 => ?_) (fun hc8 => ?_)
  · try simp only [Bool.or_eq_true, Bool.and_eq_true, Bool.or_eq_false_iff, Bool.and_eq_false_iff, Bool.not_eq_true', Bool.not_eq_false', decide_eq_true_eq, decide_eq_false_iff_not, Bool.not_true, Bool.not_false] at hc8
    refine wp_seq_k fun khK5 hK5 => ?_
    refine wp_region_lit ?_
    refine l_at hF rfl rfl rfl (x_assign rfl) ?_; clear hF; intro a hF
    refine wpList_nil ?_
    refine hK5 _ _ ?_
    refine wp_ret ?_
    try simp only [Exit.then, Exit.inBlock]
    have hM_ := swap_no (rt := rt) hc8
    refine fin_ret hF (res1 hF rfl rfl) ⟨Asn.all [(1, .blk bd (.cells #[.map (some bm), .slice Ar rt.length cr] 106 (0, 0))), (2, .map KI SV bm m okm), (3, .rd_ (.int .u8) Ar rt cr okr)], by rw [hM_.1] <;> rfl, by rw [hM_.2]; exact ⟨_, _, _, _, _, rfl⟩, grew_of (hH.sub [(1, .blk bd (.cells #[.map (some bm), .slice Ar rt.length cr] 106 (0, 0))), (2, .map KI SV bm m okm), (3, .rd_ (.int .u8) Ar rt cr okr)] (sub_cons (sub_cons (sub_cons (sub_nil _) 3 rfl) 2 rfl) 1 rfl)) (rdin_cons (fun k h => h.elim) (rdin_cons (fun k h => .inr (.inl ⟨2, _, rfl, h⟩)) (rdin_cons (fun k h => .inr (.inl ⟨3, _, rfl, h⟩)) rdin_nil)))⟩
  · try simp only [Bool.or_eq_true, Bool.and_eq_true, Bool.or_eq_false_iff, Bool.and_eq_false_iff, Bool.not_eq_true', Bool.not_eq_false', decide_eq_true_eq, decide_eq_false_iff_not, Bool.not_true, Bool.not_false] at hc8
    refine wp_skip ?_
    refine hK2 _ _ ?_
    refine wp_seq_k fun khK6 hK6 => ?_
    refine wp_region_lit ?_
    refine l_at hF rfl rfl rfl (x_move (hF.tmp 0 rfl)) ?_; clear hF; intro a hF
    refine l_at hF rfl rfl rfl (x_move (hF.tmp 1 rfl)) ?_; clear hF; intro a hF
    refine wpList_plain rfl fun K hK => ?_
    refine w_call hF (x_enter Try.func68 (by kernel_rfl) rfl (by simp only [List.map_toArray, List.map_cons, List.map_nil, hF.tmp 13 rfl] <;> rfl)) (clone_calls _ ((hH.rd 901 rfl)) (by omega)) rfl rfl ?_
    rintro _ w ⟨vr14, rfl, hm_, hr_⟩; refine ⟨_, rfl, ?_⟩; clear hF; intro a hF; have hH := Hp.rowOut hH 14 hm_ hr_; obtain ⟨Ar14, cr14, rfl⟩ := (hH.row 14 rfl).form
    refine hK _ _ ?_; clear hK K
    have hb14 : ∀ k, (Value.slice Ar14 bs.length cr14).ownBlock = some k → _ := hH.mine 14 _ rfl
    have hH := hH.freeze 14 rfl (fun k => (Value.slice Ar14 bs.length cr14).ownBlock = some k) (fun k => ⟨fun h => .inr h, fun h => h.resolve_left id⟩)
    have hH := hH.subrd 14 rfl 3 (hH.rd 14 rfl) (fun _ h => h)
    refine l_at hF rfl rfl rfl (x_nil (hF.tmp 12 rfl)) ?_; clear hF; intro a hF
    refine l_at hF rfl rfl rfl (x_faddr Try.underlying106 rfl ty42 (by decide) (hF.tmp 15 rfl) rfl) ?_; clear hF; intro a hF
    refine wpList_plain rfl fun K hK => ?_
    refine w_store 1 hH ty42 rfl (hF.tmp 16 rfl) (hF.tmp 14 rfl) rfl (one1 rfl rfl) (by first | decide | exact Nat.le_of_ble_eq_true rfl) ?_
    clear hH; intro w hH
    refine hK _ _ ?_; clear hK K
    refine wpList_nil ?_
    refine hK6 _ _ ?_
    refine wp_seq_k fun khK7 hK7 => ?_
    refine wp_region_lit ?_
    refine l_at hF rfl rfl rfl (x_assign rfl) ?_; clear hF; intro a hF
    refine wpList_nil ?_
    refine hK7 _ _ ?_
    refine wp_ret ?_
    try simp only [Exit.then, Exit.inBlock]
    have hM_ := swap_yes (rt := rt) hc8
    refine fin_ret hF (res1 hF rfl rfl) ⟨Asn.all [(1, .blk bd (.cells #[.map (some bm), .slice Ar14 bs.length cr14] 106 (0, 0))), (2, .map KI SV bm m okm), (3, .rd_ (.int .u8) Ar14 bs cr14 (fun k => (Value.slice Ar14 bs.length cr14).ownBlock = some k))], by rw [hM_.1] <;> rfl, by rw [hM_.2]; exact ⟨_, _, _, _, _, rfl⟩, grew_of (hH.sub [(1, .blk bd (.cells #[.map (some bm), .slice Ar14 bs.length cr14] 106 (0, 0))), (2, .map KI SV bm m okm), (3, .rd_ (.int .u8) Ar14 bs cr14 (fun k => (Value.slice Ar14 bs.length cr14).ownBlock = some k))] (sub_cons (sub_cons (sub_cons (sub_nil _) 3 rfl) 2 rfl) 1 rfl)) (rdin_cons (fun k h => h.elim) (rdin_cons (fun k h => .inr (.inl ⟨2, _, rfl, h⟩)) (rdin_cons (fun k h => by rcases hb14 k h with h | h; exact .inl h; exact .inr (.inr (.inr h))) rdin_nil)))⟩

set_option maxRecDepth 100000 in
set_option maxHeartbeats 1000000 in
theorem round_calls (w0 : World) (c n : Int) (h0 : -9223372036854775808 ≤ c) (h1 : c < 9223372036854775808) (hn : 0 < n) : Calls Try.prog 69 #[.int .i64 c, .int .i64 n] w0 fun e w' => e = .returned (.int .i64 (rndI c n)) ∧ Mods (fun _ => False) w0 w' := by
  refine calls_of_wp Try.func69 rfl ?_
  have hF := Fr.enter #[.int .i64 c, .int .i64 n] 13 (slotsOf [.int .i64 c, .int .i64 n] 0) (Nat.le_of_ble_eq_true rfl) (fun i v h => by have h2 := (get_slotsOf _ 0 i v h).2; simpa only [List.getElem?_toArray, Nat.sub_zero] using h2)
  have hH := Hp.nil (fun _ => False) w0
  rw [Try.ntmps69]
  revert hF; generalize (⟨(#[.int .i64 c, .int .i64 n] : Array Value) ++ Array.replicate (13 - (#[.int .i64 c, .int .i64 n] : Array Value).size) undef, []⟩ : Act) = a; intro hF
  refine wp_seq_k fun khK1 hK1 => ?_
  refine wp_region_lit ?_
  refine l_at hF rfl rfl rfl (x_assign rfl) ?_; clear hF; intro a hF
  refine wpList_nil ?_
  refine hK1 _ _ ?_
  refine wp_seq_k fun khK2 hK2 => ?_
  refine wp_seq_k fun khK3 hK3 => ?_
  refine wp_region_lit ?_
  refine l_at hF rfl rfl rfl (x_move (hF.tmp 0 rfl)) ?_; clear hF; intro a hF
  refine l_at hF rfl rfl rfl (x_lss (hF.tmp 5 rfl) rfl) ?_; clear hF; intro a hF
  refine wpList_nil ?_
  refine hK3 _ _ ?_
  refine wp_cond_split (hF.tmp 6 rfl) (fun hc6 => ?_) (fun hc6 => ?_)
  · try simp only [Bool.or_eq_true, Bool.and_eq_true, Bool.or_eq_false_iff, Bool.and_eq_false_iff, Bool.not_eq_true', Bool.not_eq_false', decide_eq_true_eq, decide_eq_false_iff_not, Bool.not_true, Bool.not_false] at hc6
    refine wp_region_lit ?_
    refine l_at hF rfl rfl rfl (x_move (hF.tmp 0 rfl)) ?_; clear hF; intro a hF
    refine l_at hF rfl rfl rfl (x_add (hF.tmp 7 rfl) rfl (w64 (by omega) (by omega))) ?_; clear hF; intro a hF
    refine l_at hF rfl rfl rfl (x_neg (hF.tmp 8 rfl) (w64 (by omega) (by omega))) ?_; clear hF; intro a hF
    have habs := rnd_neg hc6
    refine l_at hF rfl rfl rfl (x_assign (hF.tmp 9 rfl)) ?_; clear hF; intro a hF
    refine wpList_nil ?_
    refine hK2 _ _ ?_
    refine wp_seq_k fun khK4 hK4 => ?_
    refine wp_region_lit ?_
    refine l_at hF rfl rfl rfl (x_move (hF.tmp 0 rfl)) ?_; clear hF; intro a hF
    refine l_at hF rfl rfl rfl (x_move (hF.tmp 1 rfl)) ?_; clear hF; intro a hF
    refine l_at hF rfl rfl rfl (x_rem (hF.tmp 10 rfl) (hF.tmp 11 rfl) (by omega) rfl) ?_; clear hF; intro a hF
    refine l_at hF rfl rfl rfl (x_assign (hF.tmp 12 rfl)) ?_; clear hF; intro a hF
    refine wpList_nil ?_
    refine hK4 _ _ ?_
    refine wp_ret ?_
    try simp only [Exit.then, Exit.inBlock]
    exact fin_ret hF (res1 hF rfl rfl) ⟨by rw [rndI, ← habs], hH.mods⟩
  · try simp only [Bool.or_eq_true, Bool.and_eq_true, Bool.or_eq_false_iff, Bool.and_eq_false_iff, Bool.not_eq_true', Bool.not_eq_false', decide_eq_true_eq, decide_eq_false_iff_not, Bool.not_true, Bool.not_false] at hc6
    have habs := rnd_pos hc6
    refine wp_skip ?_
    refine hK2 _ _ ?_
    refine wp_seq_k fun khK5 hK5 => ?_
    refine wp_region_lit ?_
    refine l_at hF rfl rfl rfl (x_move (hF.tmp 0 rfl)) ?_; clear hF; intro a hF
    refine l_at hF rfl rfl rfl (x_move (hF.tmp 1 rfl)) ?_; clear hF; intro a hF
    refine l_at hF rfl rfl rfl (x_rem (hF.tmp 10 rfl) (hF.tmp 11 rfl) (by omega) rfl) ?_; clear hF; intro a hF
    refine l_at hF rfl rfl rfl (x_assign (hF.tmp 12 rfl)) ?_; clear hF; intro a hF
    refine wpList_nil ?_
    refine hK5 _ _ ?_
    refine wp_ret ?_
    try simp only [Exit.then, Exit.inBlock]
    exact fin_ret hF (res1 hF rfl rfl) ⟨by rw [rndI, ← habs], hH.mods⟩

set_option maxRecDepth 100000 in
set_option maxHeartbeats 1000000 in
theorem pick_calls (w0 : World) (c n : Int) (h0 : -9223372036854775808 ≤ c) (h1 : c < 9223372036854775808) (hn : 0 < n) : Calls Try.prog 24 #[.int .i64 c, .int .i64 n] w0 fun e w' => e = .returned (.int .i64 (rndI c n)) ∧ Mods (fun _ => False) w0 w' := by
  refine calls_of_wp Try.func24 rfl ?_
  have hF := Fr.enter #[.int .i64 c, .int .i64 n] 13 (slotsOf [.int .i64 c, .int .i64 n] 0) (Nat.le_of_ble_eq_true rfl) (fun i v h => by have h2 := (get_slotsOf _ 0 i v h).2; simpa only [List.getElem?_toArray, Nat.sub_zero] using h2)
  have hH := Hp.nil (fun _ => False) w0
  rw [Try.ntmps24]
  revert hF; generalize (⟨(#[.int .i64 c, .int .i64 n] : Array Value) ++ Array.replicate (13 - (#[.int .i64 c, .int .i64 n] : Array Value).size) undef, []⟩ : Act) = a; intro hF
  refine wp_seq_k fun khK1 hK1 => ?_
  refine wp_region_lit ?_
  refine l_at hF rfl rfl rfl (x_assign rfl) ?_; clear hF; intro a hF
  refine wpList_nil ?_
  refine hK1 _ _ ?_
  refine wp_seq_k fun khK2 hK2 => ?_
  refine wp_seq_k fun khK3 hK3 => ?_
  refine wp_region_lit ?_
  refine l_at hF rfl rfl rfl (x_move (hF.tmp 0 rfl)) ?_; clear hF; intro a hF
  refine l_at hF rfl rfl rfl (x_lss (hF.tmp 5 rfl) rfl) ?_; clear hF; intro a hF
  refine wpList_nil ?_
  refine hK3 _ _ ?_
  refine wp_cond_split (hF.tmp 6 rfl) (fun hc6 => ?_) (fun hc6 => ?_)
  · try simp only [Bool.or_eq_true, Bool.and_eq_true, Bool.or_eq_false_iff, Bool.and_eq_false_iff, Bool.not_eq_true', Bool.not_eq_false', decide_eq_true_eq, decide_eq_false_iff_not, Bool.not_true, Bool.not_false] at hc6
    refine wp_region_lit ?_
    refine l_at hF rfl rfl rfl (x_move (hF.tmp 0 rfl)) ?_; clear hF; intro a hF
    refine l_at hF rfl rfl rfl (x_add (hF.tmp 7 rfl) rfl (w64 (by omega) (by omega))) ?_; clear hF; intro a hF
    refine l_at hF rfl rfl rfl (x_neg (hF.tmp 8 rfl) (w64 (by omega) (by omega))) ?_; clear hF; intro a hF
    have habs := rnd_neg hc6
    refine l_at hF rfl rfl rfl (x_assign (hF.tmp 9 rfl)) ?_; clear hF; intro a hF
    refine wpList_nil ?_
    refine hK2 _ _ ?_
    refine wp_seq_k fun khK4 hK4 => ?_
    refine wp_region_lit ?_
    refine l_at hF rfl rfl rfl (x_move (hF.tmp 0 rfl)) ?_; clear hF; intro a hF
    refine l_at hF rfl rfl rfl (x_move (hF.tmp 1 rfl)) ?_; clear hF; intro a hF
    refine l_at hF rfl rfl rfl (x_rem (hF.tmp 10 rfl) (hF.tmp 11 rfl) (by omega) rfl) ?_; clear hF; intro a hF
    refine l_at hF rfl rfl rfl (x_assign (hF.tmp 12 rfl)) ?_; clear hF; intro a hF
    refine wpList_nil ?_
    refine hK4 _ _ ?_
    refine wp_ret ?_
    try simp only [Exit.then, Exit.inBlock]
    exact fin_ret hF (res1 hF rfl rfl) ⟨by rw [rndI, ← habs], hH.mods⟩
  · try simp only [Bool.or_eq_true, Bool.and_eq_true, Bool.or_eq_false_iff, Bool.and_eq_false_iff, Bool.not_eq_true', Bool.not_eq_false', decide_eq_true_eq, decide_eq_false_iff_not, Bool.not_true, Bool.not_false] at hc6
    have habs := rnd_pos hc6
    refine wp_skip ?_
    refine hK2 _ _ ?_
    refine wp_seq_k fun khK5 hK5 => ?_
    refine wp_region_lit ?_
    refine l_at hF rfl rfl rfl (x_move (hF.tmp 0 rfl)) ?_; clear hF; intro a hF
    refine l_at hF rfl rfl rfl (x_move (hF.tmp 1 rfl)) ?_; clear hF; intro a hF
    refine l_at hF rfl rfl rfl (x_rem (hF.tmp 10 rfl) (hF.tmp 11 rfl) (by omega) rfl) ?_; clear hF; intro a hF
    refine l_at hF rfl rfl rfl (x_assign (hF.tmp 12 rfl)) ?_; clear hF; intro a hF
    refine wpList_nil ?_
    refine hK5 _ _ ?_
    refine wp_ret ?_
    try simp only [Exit.then, Exit.inBlock]
    exact fin_ret hF (res1 hF rfl rfl) ⟨by rw [rndI, ← habs], hH.mods⟩

end Go.Proofs.Ytkocinnoncacgaa.Dsk
