/- Power. -/
import Derived.Test.YtkocinnoncacgaaDskB
set_option linter.unusedVariables false
set_option linter.unusedSimpArgs false
namespace Go.Proofs.Ytkocinnoncacgaa.Dsk
open Go.RowKit Go.Proofs.Ytkocinnoncacgaa.Sx
set_option maxRecDepth 100000 in
set_option maxHeartbeats 1000000 in
theorem power_calls (w0 : World) {X : Asn} {bd : Nat} {m : DM} {rt : List Int} (hX : DiskA 106 bd m rt X) (hok : X.ok w0) (hrt : rt.length ≤ 100000000) (hinv : DInv m) {okk : Nat → Prop} {Ak : Option Addr} {keep : List Int} {ck : Nat} (hrk : Rd (.int .i64) w0 okk Ak keep ck) (hkp : ∀ c ∈ keep, -9223372036854775808 ≤ c ∧ c < 9223372036854775808) : Calls Try.prog 29 #[.pointer (some ⟨bd, 0, none⟩), .slice Ak keep.length ck] w0 fun e w' => ∃ bo mo X', e = .returned (.pointer (some ⟨bo, 0, none⟩)) ∧ DiskA 106 bo mo rt X' ∧ X'.ok w' ∧ Mods (fun _ => False) w0 w' ∧ (∀ k, X'.own k → w0.heap.size ≤ k) ∧ (∀ k, X'.rd k → w0.heap.size ≤ k) ∧ mo.Perm (powL m keep) := by
  obtain ⟨bm, Ar, cr, okm, okr, rfl⟩ := hX
  have hX0 : DiskA 106 bd m rt (Asn.all [(1, .blk bd (.cells #[.map (some bm), .slice Ar rt.length cr] 106 (0, 0))), (2, .map KI SV bm m okm), (3, .rd_ (.int .u8) Ar rt cr okr)]) := ⟨_, _, _, _, _, rfl⟩
  have hok0 := hok
  refine calls_of_wp Try.func29 rfl ?_
  have hF := Fr.enter #[.pointer (some ⟨bd, 0, none⟩), .slice Ak keep.length ck] 90 (slotsOf [.pointer (some ⟨bd, 0, none⟩), .slice Ak keep.length ck] 0) (Nat.le_of_ble_eq_true rfl) (fun i v h => by have h2 := (get_slotsOf _ 0 i v h).2; simpa only [List.getElem?_toArray, Nat.sub_zero] using h2)
  rw [Try.ntmps29]
  revert hF; generalize (⟨(#[.pointer (some ⟨bd, 0, none⟩), .slice Ak keep.length ck] : Array Value) ++ Array.replicate (90 - (#[.pointer (some ⟨bd, 0, none⟩), .slice Ak keep.length ck] : Array Value).size) undef, []⟩ : Act) = a; intro hF
  have hH := disk_ro hok.holds
  have hlert := (hH.rd 3 rfl).le; unfold maxLen at hlert
  have hH := hH.arg 902 hrk.all (fun _ h => ⟨h, fun h => h⟩)
  have hlk := hrk.le; unfold maxLen at hlk
  refine wp_seq_k fun khK1 hK1 => ?_
  refine wp_region_lit ?_
  refine l_at hF rfl rfl rfl (x_assign rfl) ?_; clear hF; intro a hF
  refine wpList_nil ?_
  refine hK1 _ _ ?_
  refine wp_seq_k fun khK2 hK2 => ?_
  refine wp_seq_k fun khK3 hK3 => ?_
  refine wp_region_lit ?_
  refine l_at hF rfl rfl rfl (x_move (hF.tmp 0 rfl)) ?_; clear hF; intro a hF
  refine l_at hF rfl rfl rfl (x_ptrnil Try.underlying40 (hF.tmp 12 rfl) rfl) ?_; clear hF; intro a hF
  refine wpList_nil ?_
  refine hK3 _ _ ?_
  refine wp_cond_false (hF.tmp 13 rfl) ?_
  refine wp_skip ?_
  refine hK2 _ _ ?_
  refine wp_seq_k fun khK4 hK4 => ?_
  refine wp_region_lit ?_
  refine wpList_plain rfl fun K hK => ?_
  refine w_call hF (x_enter Try.func20 (by kernel_rfl) rfl (by simp only [List.map_toArray, List.map_cons, List.map_nil] <;> rfl)) (new_calls _) rfl rfl ?_
  rintro _ w ⟨bo, Xo, rfl, ⟨bmo, Aro, cro, okmo, okro, rfl⟩, hoko, hm_, hno, hro⟩; refine ⟨_, rfl, ?_⟩; clear hF; intro a hF; have hH := hH.merge hm_ ((hp_of_new hoko hm_ hno).shift 10) (fun k ⟨i, A_, hA, hk⟩ => by obtain ⟨j, rfl, hj⟩ := get_shift 10 hA; exact (hro k ⟨j, A_, hj, hk⟩).elim); have hokmo : ∀ k, okmo k ∧ k ≠ bmo → w0.heap.size ≤ k := fun k hk => (hro k ⟨2, _, rfl, hk⟩).elim
  refine hK _ _ ?_; clear hK K
  refine l_at hF rfl rfl rfl (x_assign (hF.tmp 14 rfl)) ?_; clear hF; intro a hF
  refine wpList_nil ?_
  refine hK4 _ _ ?_
  refine wp_seq_k fun khK5 hK5 => ?_
  refine wp_region_lit ?_
  refine l_at hF rfl rfl rfl (x_move (hF.tmp 5 rfl)) ?_; clear hF; intro a hF
  refine l_at hF rfl rfl rfl (x_move (hF.tmp 0 rfl)) ?_; clear hF; intro a hF
  refine l_at hF rfl rfl rfl (x_nil (hF.tmp 16 rfl)) ?_; clear hF; intro a hF
  refine l_at hF rfl rfl rfl (x_faddr Try.underlying106 rfl ty42 (by decide) (hF.tmp 17 rfl) rfl) ?_; clear hF; intro a hF
  refine l_at hF rfl rfl rfl (x_load1 ty42 (hF.tmp 18 rfl) (blk_cell (hH.atro 1 rfl) 1 rfl)) ?_; clear hF; intro a hF
  refine wpList_plain rfl fun K hK => ?_
  refine w_call hF (x_enter Try.func68 (by kernel_rfl) rfl (by simp only [List.map_toArray, List.map_cons, List.map_nil, hF.tmp 19 rfl] <;> rfl)) (clone_calls _ ((hH.rd 3 rfl)) ((by omega))) rfl rfl ?_
  rintro _ w ⟨vr20, rfl, hm_, hr_⟩; refine ⟨_, rfl, ?_⟩; clear hF; intro a hF; have hH := Hp.rowOut hH 20 hm_ hr_; obtain ⟨Ar20, cr20, rfl⟩ := (hH.row 20 rfl).form
  refine hK _ _ ?_; clear hK K
  have hb20 : ∀ k, (Value.slice Ar20 rt.length cr20).ownBlock = some k → w0.heap.size ≤ k := fun k hk => (hH.mine 20 _ rfl k hk).resolve_left (fun h => h)
  have hH := hH.freeze 20 rfl (fun k => (Value.slice Ar20 rt.length cr20).ownBlock = some k) (fun k => ⟨fun h => .inr h, fun h => h.resolve_left id⟩)
  have hH := hH.subrd 20 rfl 13 (hH.rd 20 rfl) (fun _ h => h)
  refine l_at hF rfl rfl rfl (x_nil (hF.tmp 15 rfl)) ?_; clear hF; intro a hF
  refine l_at hF rfl rfl rfl (x_faddr Try.underlying106 rfl ty42 (by decide) (hF.tmp 21 rfl) rfl) ?_; clear hF; intro a hF
  refine wpList_plain rfl fun K hK => ?_
  refine w_store 11 hH ty42 rfl (hF.tmp 22 rfl) (hF.tmp 20 rfl) rfl (one1 rfl rfl) (by first | decide | exact Nat.le_of_ble_eq_true rfl) ?_
  clear hH; intro w hH
  refine hK _ _ ?_; clear hK K
  refine wpList_nil ?_
  refine hK5 _ _ ?_
  refine wp_seq_k fun khK6 hK6 => ?_
  refine wp_region_lit ?_
  refine wpList_plain rfl fun K hK => ?_
  refine w_makeMap KI (VRep.flat (Value.int .i64)) 23 hF hH rfl ?_
  clear hF hH; intro a w b23 hF hH
  refine hK _ _ ?_; clear hK K
  refine l_at hF rfl rfl rfl (x_assign (hF.tmp 23 rfl)) ?_; clear hF; intro a hF
  refine wpList_nil ?_
  refine hK6 _ _ ?_
  refine wp_seq_k fun khK7 hK7 => ?_
  refine wp_seq_k fun khK8 hK8 => ?_
  refine wp_region_lit ?_
  refine l_at hF rfl rfl rfl (x_move (hF.tmp 0 rfl)) ?_; clear hF; intro a hF
  have hm0 := hH.mods
  refine wpList_plain rfl fun K hK => ?_
  refine w_call hF (x_enter Try.func40 (by kernel_rfl) rfl (by simp only [List.map_toArray, List.map_cons, List.map_nil, hF.tmp 24 rfl] <;> rfl)) (segs_calls _ hX0 (hok0.same hm0) (by have := hinv.few; omega)) rfl rfl ?_
  rintro _ w ⟨vr25, rfl, hm_, hr_⟩; refine ⟨_, rfl, ?_⟩; clear hF; intro a hF; have hH := Hp.rowOut hH 25 hm_ hr_; obtain ⟨A25, c25, rfl⟩ := (hH.row 25 rfl).form
  refine hK _ _ ?_; clear hK K
  have hkl := keysL_length m
  have hnd := keysL_nodup hinv.keys
  have hfew := hinv.few
  refine l_at hF rfl rfl rfl (x_len_slice Try.underlying32 (hF.tmp 25 rfl)) ?_; clear hF; intro a hF
  refine l_at hF rfl rfl rfl (x_move rfl) ?_; clear hF; intro a hF
  refine wpList_nil ?_
  refine hK8 _ _ ?_
  refine wp_block ?_
  refine wp_loop_ghost (fun n_ a w => ∃ k : Nat, n_ = (keysL m).length - k ∧ (k ≤ (keysL m).length) ∧ Fr 90 a [(0, .pointer (some ⟨bd, 0, none⟩)), (1, .slice Ak keep.length ck), (5, .pointer (some ⟨bo, 0, none⟩)), (6, .map (some b23)), (25, .slice A25 (keysL m).length c25), (26, .int .i64 ((keysL m).length : Int)), (27, .int .i64 (k : Int))] ∧ Hp (fun _ => False) w0 w [(1, .ro (.blk bd (.cells #[.map (some bm), .slice Ar rt.length cr] 106 (0, 0)))), (2, .ro (.map KI SV bm m okm)), (3, .rd_ (.int .u8) Ar rt cr okr), (902, .rd_ (.int .i64) Ak keep ck (fun k => k < w0.heap.size)), (11, .blk bo (.cells #[.map (some bmo), .slice Ar20 rt.length cr20] 106 (0, 0))), (12, .map KI SV bmo [] okmo), (13, .rd_ (.int .u8) Ar20 rt cr20 (fun k => (Value.slice Ar20 rt.length cr20).ownBlock = some k)), (20, .rd_ (.int .u8) Ar20 rt cr20 (fun k => (Value.slice Ar20 rt.length cr20).ownBlock = some k)), (23, .map KI (VRep.flat (Value.int .i64)) b23 (lft m keep (keysL m) k) (fun _ => False)), (25, .row (.int .i64) 3 (.slice A25 (keysL m).length c25) (keysL m) (fun _ => False))]) ((keysL m).length) ?_ ?_
  · exact ⟨0, rfl, by omega, (((((((hF.bare.add hF 27 rfl).add hF 26 rfl).add hF 25 rfl).add hF 6 rfl).add hF 5 rfl).add hF 1 rfl).add hF 0 rfl), hH.sub _ (sub_cons (sub_cons (sub_cons (sub_cons (sub_cons (sub_cons (sub_cons (sub_cons (sub_cons (sub_cons (sub_nil _) 25 rfl) 23 rfl) 20 rfl) 13 rfl) 12 rfl) 11 rfl) 902 rfl) 3 rfl) 2 rfl) 1 rfl)⟩
  · rintro _ a w ⟨k, rfl, hq0_0, hF, hH⟩
    refine wp_seq_k fun khK9 hK9 => ?_
    refine wp_region_lit ?_
    refine l_at hF rfl rfl rfl (x_lss (hF.tmp 27 rfl) (hF.tmp 26 rfl)) ?_; clear hF; intro a hF
    refine wpList_nil ?_
    refine hK9 _ _ ?_
    refine wp_seq_k fun khK10 hK10 => ?_
    refine wp_cond_split (hF.tmp 28 rfl) (fun hc28 => ?_) (fun hc28 => ?_)
    · try simp only [Bool.or_eq_true, Bool.and_eq_true, Bool.or_eq_false_iff, Bool.and_eq_false_iff, Bool.not_eq_true', Bool.not_eq_false', decide_eq_true_eq, decide_eq_false_iff_not, Bool.not_true, Bool.not_false] at hc28
      have hkk := gi_mem (ks := (keysL m)) (k := k) (by omega)
      have hget := hinv.get (gi (keysL m) (k : Int))
      refine wp_skip ?_
      refine hK10 _ _ ?_
      refine wp_seq_k fun khK11 hK11 => ?_
      refine wp_block ?_
      refine wp_seq_k fun khK12 hK12 => ?_
      refine wp_region_lit ?_
      refine l_at hF rfl rfl rfl (x_move (hF.tmp 27 rfl)) ?_; clear hF; intro a hF
      refine l_at hF rfl rfl rfl (x_iaddr_A Try.underlying32 ty3 (Row.rd (ok' := fun k_ => (fun _ => False) k_ ∨ (.slice A25 (keysL m).length c25 : Value).ownBlock = some k_) (hH.row 25 rfl) (fun _ hk_ _ => .inl hk_) (fun _ hk_ => .inr hk_)) (hF.tmp 25 rfl) (hF.tmp 27 rfl) (by omega) (by omega) _) ?_; clear hF; intro a hF
      refine l_at hF rfl rfl rfl (x_load1 ty3 (hF.tmp 30 rfl) ((Row.rd (ok' := fun k_ => (fun _ => False) k_ ∨ (.slice A25 (keysL m).length c25 : Value).ownBlock = some k_) (hH.row 25 rfl) (fun _ hk_ _ => .inl hk_) (fun _ hk_ => .inr hk_)).cellA (gi_some (i := (k : Int)) (by omega) (by omega)))) ?_; clear hF; intro a hF
      refine l_at hF rfl rfl rfl (x_assign (hF.tmp 29 rfl)) ?_; clear hF; intro a hF
      refine l_at hF rfl rfl rfl (x_assign (hF.tmp 31 rfl)) ?_; clear hF; intro a hF
      refine wpList_nil ?_
      refine hK12 _ _ ?_
      refine wp_seq_k fun khK13 hK13 => ?_
      refine wp_region_lit ?_
      refine l_at hF rfl rfl rfl (x_move (hF.tmp 0 rfl)) ?_; clear hF; intro a hF
      refine l_at hF rfl rfl rfl (x_nil (hF.tmp 32 rfl)) ?_; clear hF; intro a hF
      refine l_at hF rfl rfl rfl (x_faddr Try.underlying106 rfl ty104 (by decide) (hF.tmp 33 rfl) rfl) ?_; clear hF; intro a hF
      refine l_at hF rfl rfl rfl (x_load1 ty104 (hF.tmp 34 rfl) (blk_cell (hH.atro 1 rfl) 0 rfl)) ?_; clear hF; intro a hF
      refine l_at hF rfl rfl rfl (x_move (hF.tmp 8 rfl)) ?_; clear hF; intro a hF
      obtain ⟨vm37, hvm37, hlm37⟩ := (hH.mapro 2 rfl).look (P := Try.prog) Try.underlying104 Try.underlying3 ((ty108).zero _) seg_zero (gi (keysL m) (k : Int))
      replace hvm37 : SV.R _ _ (getM m (gi (keysL m) (k : Int))) _ := hvm37
      obtain ⟨A37, c37, rfl, hr37⟩ := seg_open hvm37
      have hH := hH.subrd 2 rfl 2037 hr37 (fun _ h => .inr h)
      have hle37 := hr37.le; unfold maxLen at hle37
      refine l_at hF rfl rfl rfl (x_lookup hlm37 (hF.tmp 35 rfl) (hF.tmp 36 rfl)) ?_; clear hF; intro a hF
      refine wpList_plain rfl fun K hK => ?_
      refine w_alloc 9 hF hH rfl ty108 ?_
      clear hF hH; intro a w b9 hF hH
      refine hK _ _ ?_; clear hK K
      refine wpList_plain rfl fun K hK => ?_
      refine w_storeA 9 hH ty108 rfl (hF.tmp 9 rfl) (hF.tmp 37 rfl) rfl (by simp [Value.cells, Value.oneCell']) rfl ?_
      clear hH; intro w hH
      refine hK _ _ ?_; clear hK K
      refine wpList_nil ?_
      refine hK13 _ _ ?_
      refine wp_seq_k fun khK14 hK14 => ?_
      refine wp_region_lit ?_
      refine l_at hF rfl rfl rfl (x_move (hF.tmp 6 rfl)) ?_; clear hF; intro a hF
      refine l_at hF rfl rfl rfl (x_move (hF.tmp 8 rfl)) ?_; clear hF; intro a hF
      refine l_at hF rfl rfl rfl (x_faddr Try.underlying108 rfl ty3 (by decide) (hF.tmp 9 rfl) rfl) ?_; clear hF; intro a hF
      refine l_at hF rfl rfl rfl (x_load1 ty3 (hF.tmp 40 rfl) (blk_cell (hH.at 9 rfl) 1 rfl)) ?_; clear hF; intro a hF
      refine wpList_plain rfl fun K hK => ?_
      refine w_mapSet 23 (k := (gi (keysL m) (k : Int))) (yv := (getM m (gi (keysL m) (k : Int))).2) (fun _ => False) hH rfl Try.underlying113 Try.underlying3 (hF.tmp 38 rfl) (hF.tmp 39 rfl) (hF.tmp 41 rfl) rfl (fun k hk => hk) (fun k hk => .inl hk) ?_
      clear hH; intro w hH
      refine hK _ _ ?_; clear hK K
      refine wpList_nil ?_
      refine hK14 _ _ ?_
      refine wp_seq_k fun khK15 hK15 => ?_
      refine wp_region_lit ?_
      refine l_at hF rfl rfl rfl (x_move (hF.tmp 7 rfl)) ?_; clear hF; intro a hF
      refine l_at hF rfl rfl rfl (x_move (hF.tmp 1 rfl)) ?_; clear hF; intro a hF
      refine l_at hF rfl rfl rfl (x_len_slice Try.underlying32 (hF.tmp 43 rfl)) ?_; clear hF; intro a hF
      refine l_at hF rfl rfl rfl (x_lss (hF.tmp 42 rfl) (hF.tmp 44 rfl)) ?_; clear hF; intro a hF
      refine wpList_nil ?_
      refine hK15 _ _ ?_
      refine wp_cond_split (hF.tmp 45 rfl) (fun hc45 => ?_) (fun hc45 => ?_)
      · try simp only [Bool.or_eq_true, Bool.and_eq_true, Bool.or_eq_false_iff, Bool.and_eq_false_iff, Bool.not_eq_true', Bool.not_eq_false', decide_eq_true_eq, decide_eq_false_iff_not, Bool.not_true, Bool.not_false] at hc45
        refine r_start [(9, .blk b9 (.cells #[.slice A37 (getM m (gi (keysL m) (k : Int))).1.length c37, .int .i64 (getM m (gi (keysL m) (k : Int))).2] 108 (0, 0))), (902, .rd_ (.int .i64) Ak keep ck (fun k => k < w0.heap.size))] (by kernel_rfl) hH fun hH => ?_
        have hS : SL [(9, .blk b9 (.cells #[.slice A37 (getM m (gi (keysL m) (k : Int))).1.length c37, .int .i64 (getM m (gi (keysL m) (k : Int))).2] 108 (0, 0))), (902, .rd_ (.int .i64) Ak keep ck (fun k => k < w0.heap.size))] _ := SL.of hH (sub_cons (sub_cons (sub_nil _) 902 rfl) 9 rfl)
        refine r_take 0 hF rfl rfl rfl (by kernel_rfl) (by kernel_rfl) (by kernel_rfl) (fun _ _ _ h => h) rfl hS (fun w hS => x_move (hF.tmp 6 rfl)) rfl ?_; clear hF; intro a hF
        refine r_take 1 hF rfl rfl rfl (by kernel_rfl) (by kernel_rfl) (by kernel_rfl) (fun _ _ _ h => h) rfl hS (fun w hS => x_move (hF.tmp 8 rfl)) rfl ?_; clear hF; intro a hF
        refine r_take 3 hF rfl rfl rfl (by kernel_rfl) (by kernel_rfl) (by kernel_rfl) (fun _ _ _ h => h) rfl hS (fun w hS => x_move (hF.tmp 1 rfl)) rfl ?_; clear hF; intro a hF
        refine r_take 4 hF rfl rfl rfl (by kernel_rfl) (by kernel_rfl) (by kernel_rfl) (fun _ _ _ h => h) rfl hS (fun w hS => x_move (hF.tmp 7 rfl)) rfl ?_; clear hF; intro a hF
        refine r_take 5 hF rfl rfl rfl (by kernel_rfl) (by kernel_rfl) (by kernel_rfl) (fun _ _ _ h => h) rfl hS (fun w hS => x_iaddr_A Try.underlying32 ty3 ((hH.rd 902 rfl)) (hF.tmp 49 rfl) (hF.tmp 50 rfl) (by omega) (by omega) _) rfl ?_; clear hF; intro a hF
        refine r_take 6 hF rfl rfl rfl (by kernel_rfl) (by kernel_rfl) (by kernel_rfl) (fun _ _ _ h => h) rfl hS (fun w hS => x_load1 ty3 (hF.tmp 51 rfl) (((SL.rd hS 902 rfl)).cellA (gi_some (i := (k : Int)) (by omega) (by omega)))) rfl ?_; clear hF; intro a hF
        refine r_take 7 hF rfl rfl rfl (by kernel_rfl) (by kernel_rfl) (by kernel_rfl) (fun _ _ _ h => h) rfl hS (fun w hS => x_faddr Try.underlying108 rfl ty42 (by decide) (hF.tmp 9 rfl) rfl) rfl ?_; clear hF; intro a hF
        refine r_take 8 hF rfl rfl rfl (by kernel_rfl) (by kernel_rfl) (by kernel_rfl) (fun _ _ _ h => h) rfl hS (fun w hS => x_load1 ty42 (hF.tmp 53 rfl) (blk_cell (SL.at_ hS 9 rfl) 0 rfl)) rfl ?_; clear hF; intro a hF
        refine r_take 9 hF rfl rfl rfl (by kernel_rfl) (by kernel_rfl) (by kernel_rfl) (fun _ _ _ h => h) rfl hS (fun w hS => x_len_slice Try.underlying42 (hF.tmp 54 rfl)) rfl ?_; clear hF; intro a hF
        refine r_take 10 hF rfl rfl rfl (by kernel_rfl) (by kernel_rfl) (by kernel_rfl) (fun _ _ _ h => h) rfl hS (fun w hS => x_faddr Try.underlying108 rfl ty3 (by decide) (hF.tmp 9 rfl) rfl) rfl ?_; clear hF; intro a hF
        refine r_take 11 hF rfl rfl rfl (by kernel_rfl) (by kernel_rfl) (by kernel_rfl) (fun _ _ _ h => h) rfl hS (fun w hS => x_load1 ty3 (hF.tmp 56 rfl) (blk_cell (SL.at_ hS 9 rfl) 1 rfl)) rfl ?_; clear hF; intro a hF
        refine r_take 12 hF rfl rfl rfl (by kernel_rfl) (by kernel_rfl) (by kernel_rfl) (fun _ _ _ h => h) rfl hS (fun w hS => x_sub (hF.tmp 55 rfl) (hF.tmp 57 rfl) (w64 (by omega) (by omega))) rfl ?_; clear hF; intro a hF
        refine r_take 13 hF rfl rfl rfl (by kernel_rfl) (by kernel_rfl) (by kernel_rfl) (fun _ _ _ h => h) rfl hS (fun w hS => x_add (hF.tmp 58 rfl) rfl (w64 (by omega) (by omega))) rfl ?_; clear hF; intro a hF
        refine r_do2 2 14 rfl rfl (by kernel_rfl) rfl rfl rfl rfl ?_ ?_
        ·
          refine w_at hF (x_lookF (k := (gi (keysL m) (k : Int))) (hH.map 23 rfl) Try.underlying113 Try.underlying3 (ty3).zero (hF.tmp 46 rfl) (hF.tmp 47 rfl)) rfl rfl ?_
          clear hF; intro a hF
          clear hS; have hS : SL _ _ := SL.of hH (sub_cons (sub_cons (sub_nil _) 902 rfl) 9 rfl); refine ⟨hS, ?_⟩
          refine r_do 14 rfl (by kernel_rfl) rfl rfl ?_
          refine w_call hF (x_enter Try.func69 (by kernel_rfl) rfl (by simp only [List.map_toArray, List.map_cons, List.map_nil, hF.tmp 52 rfl, hF.tmp 59 rfl] <;> rfl)) (round_calls _ (gi keep (k : Int)) (((((getM m (gi (keysL m) (k : Int))).1).length : Int) - ((getM m (gi (keysL m) (k : Int))).2)) + 1) (hkp _ (gi_mem (by omega))).1 (hkp _ (gi_mem (by omega))).2 (by omega)) rfl rfl ?_
          rintro _ w ⟨rfl, hm_⟩; refine ⟨_, rfl, ?_⟩; clear hF; intro a hF; have hH := hH.same hm_
          clear hS; have hS : SL _ _ := SL.of hH (sub_cons (sub_cons (sub_nil _) 902 rfl) 9 rfl); refine ⟨hS, ?_⟩
          have hrr := rnd_range (c := gi keep (k : Int)) (n := ((getM m (gi (keysL m) (k : Int))).1.length : Int) - (getM m (gi (keysL m) (k : Int))).2 + 1) (by omega)
          refine r_take 15 hF rfl rfl rfl (by kernel_rfl) (by kernel_rfl) (by kernel_rfl) (fun _ _ _ h => h) rfl hS (fun w hS => x_add (hF.tmp 48 rfl) (hF.tmp 60 rfl) (w64 (by rw [al_put, if_pos rfl]; simp only [Option.getD_some]; omega) (by rw [al_put, if_pos rfl]; simp only [Option.getD_some]; omega))) rfl ?_; clear hF; intro a hF
          refine r_do 16 rfl (by kernel_rfl) rfl rfl ?_
          refine w_mapSet 23 (k := (gi (keysL m) (k : Int))) (yv := (((al (mput (lft m keep (keysL m) k) (gi (keysL m) (k : Int)) ((getM m (gi (keysL m) (k : Int))).2)) (gi (keysL m) (k : Int))).getD 0) + (rndI (gi keep (k : Int)) (((((getM m (gi (keysL m) (k : Int))).1).length : Int) - ((getM m (gi (keysL m) (k : Int))).2)) + 1)))) (fun _ => False) hH rfl Try.underlying113 Try.underlying3 (hF.tmp 46 rfl) (hF.tmp 47 rfl) (hF.tmp 61 rfl) rfl (fun k hk => hk) (fun k hk => .inl hk) ?_
          clear hH; intro w hH
          clear hS; have hS : SL _ _ := SL.of hH (sub_cons (sub_cons (sub_nil _) 902 rfl) 9 rfl); refine ⟨hS, ?_⟩
          rw [lft_yes hnd (by omega) hc45] at hH
          refine r_end (by kernel_rfl) ?_; clear hS
          refine hK11 _ _ ?_
          refine wp_region_lit ?_
          refine l_at hF rfl rfl rfl (x_add (hF.tmp 27 rfl) rfl (w64 (by omega) (by omega))) ?_; clear hF; intro a hF
          refine l_at hF rfl rfl rfl (x_move (hF.tmp 62 rfl)) ?_; clear hF; intro a hF
          refine wpList_nil ?_
          exact ⟨_, by omega, ⟨k + 1, rfl, by omega, (((((((hF.bare.add hF 27 rfl).add hF 26 rfl).add hF 25 rfl).add hF 6 rfl).add hF 5 rfl).add hF 1 rfl).add hF 0 rfl), hH.sub _ (sub_cons (sub_cons (sub_cons (sub_cons (sub_cons (sub_cons (sub_cons (sub_cons (sub_cons (sub_cons (sub_nil _) 25 rfl) 23 rfl) 20 rfl) 13 rfl) 12 rfl) 11 rfl) 902 rfl) 3 rfl) 2 rfl) 1 rfl)⟩⟩
        ·
          refine w_call hF (x_enter Try.func69 (by kernel_rfl) rfl (by simp only [List.map_toArray, List.map_cons, List.map_nil, hF.tmp 52 rfl, hF.tmp 59 rfl] <;> rfl)) (round_calls _ (gi keep (k : Int)) (((((getM m (gi (keysL m) (k : Int))).1).length : Int) - ((getM m (gi (keysL m) (k : Int))).2)) + 1) (hkp _ (gi_mem (by omega))).1 (hkp _ (gi_mem (by omega))).2 (by omega)) rfl rfl ?_
          rintro _ w ⟨rfl, hm_⟩; refine ⟨_, rfl, ?_⟩; clear hF; intro a hF; have hH := hH.same hm_
          clear hS; have hS : SL _ _ := SL.of hH (sub_cons (sub_cons (sub_nil _) 902 rfl) 9 rfl); refine ⟨hS, ?_⟩
          have hrr := rnd_range (c := gi keep (k : Int)) (n := ((getM m (gi (keysL m) (k : Int))).1.length : Int) - (getM m (gi (keysL m) (k : Int))).2 + 1) (by omega)
          refine r_do 2 rfl (by kernel_rfl) rfl rfl ?_
          refine w_at hF (x_lookF (k := (gi (keysL m) (k : Int))) (hH.map 23 rfl) Try.underlying113 Try.underlying3 (ty3).zero (hF.tmp 46 rfl) (hF.tmp 47 rfl)) rfl rfl ?_
          clear hF; intro a hF
          clear hS; have hS : SL _ _ := SL.of hH (sub_cons (sub_cons (sub_nil _) 902 rfl) 9 rfl); refine ⟨hS, ?_⟩
          refine r_take 15 hF rfl rfl rfl (by kernel_rfl) (by kernel_rfl) (by kernel_rfl) (fun _ _ _ h => h) rfl hS (fun w hS => x_add (hF.tmp 48 rfl) (hF.tmp 60 rfl) (w64 (by rw [al_put, if_pos rfl]; simp only [Option.getD_some]; omega) (by rw [al_put, if_pos rfl]; simp only [Option.getD_some]; omega))) rfl ?_; clear hF; intro a hF
          refine r_do 16 rfl (by kernel_rfl) rfl rfl ?_
          refine w_mapSet 23 (k := (gi (keysL m) (k : Int))) (yv := (((al (mput (lft m keep (keysL m) k) (gi (keysL m) (k : Int)) ((getM m (gi (keysL m) (k : Int))).2)) (gi (keysL m) (k : Int))).getD 0) + (rndI (gi keep (k : Int)) (((((getM m (gi (keysL m) (k : Int))).1).length : Int) - ((getM m (gi (keysL m) (k : Int))).2)) + 1)))) (fun _ => False) hH rfl Try.underlying113 Try.underlying3 (hF.tmp 46 rfl) (hF.tmp 47 rfl) (hF.tmp 61 rfl) rfl (fun k hk => hk) (fun k hk => .inl hk) ?_
          clear hH; intro w hH
          clear hS; have hS : SL _ _ := SL.of hH (sub_cons (sub_cons (sub_nil _) 902 rfl) 9 rfl); refine ⟨hS, ?_⟩
          rw [lft_yes hnd (by omega) hc45] at hH
          refine r_end (by kernel_rfl) ?_; clear hS
          refine hK11 _ _ ?_
          refine wp_region_lit ?_
          refine l_at hF rfl rfl rfl (x_add (hF.tmp 27 rfl) rfl (w64 (by omega) (by omega))) ?_; clear hF; intro a hF
          refine l_at hF rfl rfl rfl (x_move (hF.tmp 62 rfl)) ?_; clear hF; intro a hF
          refine wpList_nil ?_
          exact ⟨_, by omega, ⟨k + 1, rfl, by omega, (((((((hF.bare.add hF 27 rfl).add hF 26 rfl).add hF 25 rfl).add hF 6 rfl).add hF 5 rfl).add hF 1 rfl).add hF 0 rfl), hH.sub _ (sub_cons (sub_cons (sub_cons (sub_cons (sub_cons (sub_cons (sub_cons (sub_cons (sub_cons (sub_cons (sub_nil _) 25 rfl) 23 rfl) 20 rfl) 13 rfl) 12 rfl) 11 rfl) 902 rfl) 3 rfl) 2 rfl) 1 rfl)⟩⟩
      · try simp only [Bool.or_eq_true, Bool.and_eq_true, Bool.or_eq_false_iff, Bool.and_eq_false_iff, Bool.not_eq_true', Bool.not_eq_false', decide_eq_true_eq, decide_eq_false_iff_not, Bool.not_true, Bool.not_false] at hc45
        rw [lft_no hnd (by omega) hc45] at hH
        refine wp_skip ?_
        refine hK11 _ _ ?_
        refine wp_region_lit ?_
        refine l_at hF rfl rfl rfl (x_add (hF.tmp 27 rfl) rfl (w64 (by omega) (by omega))) ?_; clear hF; intro a hF
        refine l_at hF rfl rfl rfl (x_move (hF.tmp 62 rfl)) ?_; clear hF; intro a hF
        refine wpList_nil ?_
        exact ⟨_, by omega, ⟨k + 1, rfl, by omega, (((((((hF.bare.add hF 27 rfl).add hF 26 rfl).add hF 25 rfl).add hF 6 rfl).add hF 5 rfl).add hF 1 rfl).add hF 0 rfl), hH.sub _ (sub_cons (sub_cons (sub_cons (sub_cons (sub_cons (sub_cons (sub_cons (sub_cons (sub_cons (sub_cons (sub_nil _) 25 rfl) 23 rfl) 20 rfl) 13 rfl) 12 rfl) 11 rfl) 902 rfl) 3 rfl) 2 rfl) 1 rfl)⟩⟩
    · try simp only [Bool.or_eq_true, Bool.and_eq_true, Bool.or_eq_false_iff, Bool.and_eq_false_iff, Bool.not_eq_true', Bool.not_eq_false', decide_eq_true_eq, decide_eq_false_iff_not, Bool.not_true, Bool.not_false] at hc28
      obtain rfl : k = (keysL m).length := by omega
      refine wp_exit ?_
      refine hK7 _ _ ?_
      refine wp_seq_k fun khK16 hK16 => ?_
      refine wp_seq_k fun khK17 hK17 => ?_
      refine wp_region_lit ?_
      refine l_at hF rfl rfl rfl (x_move (hF.tmp 6 rfl)) ?_; clear hF; intro a hF
      have hH := hH.roAny 23 rfl
      refine wpList_plain rfl fun K hK => ?_
      refine w_range 64 23 hF hH rfl rfl Try.underlying113 (hF.tmp 63 rfl) ?_
      clear hF hH; intro a w it64 hF hH
      refine hK _ _ ?_; clear hK K
      refine wpList_nil ?_
      refine hK17 _ _ ?_
      refine wp_block ?_
      refine wp_loop_ghost (fun n_ a w => ∃ rest : List (Int × Int), ∃ mo : DM, ∃ oko : Nat → Prop, ∃ cur_ : Option ((Int × Int) × Value), n_ = 0 + rest.length ∧ ((mo ++ outL m rest).Perm (powL m keep)) ∧ (∀ k, oko k ∧ k ≠ bmo → w0.heap.size ≤ k) ∧ (∀ p ∈ rest, 0 ≤ p.2 ∧ p.2 ≤ ((getM m p.1).1.length : Int) ∧ hasM m p.1 = true) ∧ Fr 90 a [(0, .pointer (some ⟨bd, 0, none⟩)), (5, .pointer (some ⟨bo, 0, none⟩)), (64, .pointer (some ⟨it64, 0, none⟩))] ∧ Hp (fun _ => False) w0 w [(1, .ro (.blk bd (.cells #[.map (some bm), .slice Ar rt.length cr] 106 (0, 0)))), (2, .ro (.map KI SV bm m okm)), (3, .rd_ (.int .u8) Ar rt cr okr), (902, .rd_ (.int .i64) Ak keep ck (fun k => k < w0.heap.size)), (11, .blk bo (.cells #[.map (some bmo), .slice Ar20 rt.length cr20] 106 (0, 0))), (12, .map KI SV bmo mo oko), (13, .rd_ (.int .u8) Ar20 rt cr20 (fun k => (Value.slice Ar20 rt.length cr20).ownBlock = some k)), (20, .rd_ (.int .u8) Ar20 rt cr20 (fun k => (Value.slice Ar20 rt.length cr20).ownBlock = some k)), (23, .ro (.map KI (VRep.flat (Value.int .i64)) b23 (lft m keep (keysL m) (keysL m).length) (fun _ => False))), (25, .row (.int .i64) 3 (.slice A25 (keysL m).length c25) (keysL m) (fun _ => False)), (64, .iter KI (VRep.flat (Value.int .i64)) b23 it64 (lft m keep (keysL m) (keysL m).length) rest cur_ (fun k => (fun _ => False : Nat → Prop) k ∧ k ≠ b23))]) (0 + (lft m keep (keysL m) (keysL m).length).length) ?_ ?_
      · exact ⟨_, [], okmo, none, rfl, List.Perm.refl _, hokmo, lft_ok hinv (Nat.le_refl _), (((hF.bare.add hF 64 rfl).add hF 5 rfl).add hF 0 rfl), hH.sub _ (sub_cons (sub_cons (sub_cons (sub_cons (sub_cons (sub_cons (sub_cons (sub_cons (sub_cons (sub_cons (sub_cons (sub_nil _) 64 rfl) 25 rfl) 23 rfl) 20 rfl) 13 rfl) 12 rfl) 11 rfl) 902 rfl) 3 rfl) 2 rfl) 1 rfl)⟩
      · rintro _ a w ⟨rest, mo, oko, cur_, rfl, hq2_0, hq2_1, hq2_2, hF, hH⟩
        refine wp_seq_k fun khK18 hK18 => ?_
        refine wp_region_lit ?_
        refine wpList_plain rfl fun K hK => ?_
        refine w_next 64 hF hH rfl rfl (hF.tmp 64 rfl) (fun a hr0 hF hH => hK _ _ ?_) (fun a w r1 p65 r2 v65 hr1 hF hH => hK _ _ ?_) <;> clear hK K
        ·
          refine l_at hF rfl rfl rfl (x_extract (hF.tmp 65 rfl) rfl) ?_; clear hF; intro a hF
          refine wpList_nil ?_
          refine hK18 _ _ ?_
          refine wp_seq_k fun khK19 hK19 => ?_
          refine wp_cond_false (hF.tmp 66 rfl) ?_
          refine wp_exit ?_
          refine hK16 _ _ ?_
          refine wp_seq_k fun khK20 hK20 => ?_
          refine wp_region_lit ?_
          refine l_at hF rfl rfl rfl (x_move (hF.tmp 5 rfl)) ?_; clear hF; intro a hF
          refine l_at hF rfl rfl rfl (x_assign (hF.tmp 89 rfl)) ?_; clear hF; intro a hF
          refine wpList_nil ?_
          refine hK20 _ _ ?_
          refine wp_ret ?_
          try simp only [Exit.then, Exit.inBlock]
          have hl : Hp _ w0 w [(11, .blk bo (.cells #[.map (some bmo), .slice Ar20 rt.length cr20] 106 (0, 0))), (12, .map KI SV bmo mo oko), (13, .rd_ (.int .u8) Ar20 rt cr20 (fun k => (Value.slice Ar20 rt.length cr20).ownBlock = some k))] := hH.sub _ (sub_cons (sub_cons (sub_cons (sub_nil _) 13 rfl) 12 rfl) 11 rfl)
          have hl2 : Hp _ w0 w [(1, .blk bo (.cells #[.map (some bmo), .slice Ar20 rt.length cr20] 106 (0, 0))), (2, .map KI SV bmo mo oko), (3, .rd_ (.int .u8) Ar20 rt cr20 (fun k => (Value.slice Ar20 rt.length cr20).ownBlock = some k))] := hl.unshift 10
          exact fin_ret hF (res1 hF rfl rfl) ⟨bo, mo, _, rfl, ⟨_, _, _, _, _, rfl⟩, hl2.okAll, hH.mods, own_cons (fun k hk => (hl2.mine 1 _ rfl k hk).resolve_left (fun h => h)) (own_cons (fun k hk => (hl2.mine 2 _ rfl k hk).resolve_left (fun h => h)) (own_cons (fun k hk => hk.elim) own_nil)), rdin_cons (fun k h => h.elim) (rdin_cons (fun k h => hq2_1 k h) (rdin_cons (fun k h => hb20 k h) rdin_nil)), by rw [hr0] at hq2_0; simpa [outL] using hq2_0⟩
        ·
          obtain rfl : v65 = .int .i64 p65.2 := hH.curR 64 rfl
          refine l_at hF rfl rfl rfl (x_extract (hF.tmp 65 rfl) rfl) ?_; clear hF; intro a hF
          refine wpList_nil ?_
          refine hK18 _ _ ?_
          refine wp_seq_k fun khK21 hK21 => ?_
          refine wp_cond_true (hF.tmp 66 rfl) ?_
          refine wp_skip ?_
          refine hK21 _ _ ?_
          refine wp_block ?_
          refine wp_seq_k fun khK22 hK22 => ?_
          refine wp_region_lit ?_
          refine l_at hF rfl rfl rfl (x_entry 64 hH rfl (hF.tmp 64 rfl)) ?_; clear hF; intro a hF
          refine l_at hF rfl rfl rfl (x_extract (hF.tmp 67 rfl) rfl) ?_; clear hF; intro a hF
          refine l_at hF rfl rfl rfl (x_extract (hF.tmp 67 rfl) rfl) ?_; clear hF; intro a hF
          refine l_at hF rfl rfl rfl (x_assign (hF.tmp 68 rfl)) ?_; clear hF; intro a hF
          refine l_at hF rfl rfl rfl (x_assign (hF.tmp 69 rfl)) ?_; clear hF; intro a hF
          refine wpList_nil ?_
          refine hK22 _ _ ?_
          refine wp_seq_k fun khK23 hK23 => ?_
          refine wp_region_lit ?_
          refine l_at hF rfl rfl rfl (x_move (hF.tmp 11 rfl)) ?_; clear hF; intro a hF
          refine l_at hF rfl rfl rfl (x_gtr (hF.tmp 70 rfl) rfl) ?_; clear hF; intro a hF
          refine wpList_nil ?_
          refine hK23 _ _ ?_
          refine wp_cond_split (hF.tmp 71 rfl) (fun hc71 => ?_) (fun hc71 => ?_)
          · try simp only [Bool.or_eq_true, Bool.and_eq_true, Bool.or_eq_false_iff, Bool.and_eq_false_iff, Bool.not_eq_true', Bool.not_eq_false', decide_eq_true_eq, decide_eq_false_iff_not, Bool.not_true, Bool.not_false] at hc71
            obtain ⟨hp0, hp1, hph⟩ := hq2_2 p65 (by rw [hr1]; simp)
            obtain ⟨r82, hH, hs82, hv82⟩ := hH.lk 82 2 rfl p65.1
            obtain ⟨v82, rfl⟩ : ∃ v, r82 = some v := Option.isSome_iff_exists.1 (hs82.trans hph)
            obtain ⟨x82, hx82, hvR⟩ := hv82 _ rfl
            have hg82 : getM m p65.1 = x82 := by unfold getM; rw [hx82]; rfl
            obtain ⟨A82, c82, rfl, hr82⟩ := seg_open hvR
            have hH := hH.subrd 2 rfl 2082 hr82 (fun _ h => .inr h)
            rw [hg82] at hp1
            have hle82 := hr82.le; unfold maxLen at hle82
            have hsz82 := (hinv.get p65.1).2.2; rw [hg82] at hsz82
            refine r_start [(11, .blk bo (.cells #[.map (some bmo), .slice Ar20 rt.length cr20] 106 (0, 0))), (1, .ro (.blk bd (.cells #[.map (some bm), .slice Ar rt.length cr] 106 (0, 0)))), (82, .lk KI bm p65.1 (some (.agg #[.slice A82 x82.1.length c82, .int .i64 x82.2]))), (2082, .rd_ (.int .u8) A82 x82.1 c82 (fun k => okm k ∧ k ≠ bm))] (by kernel_rfl) hH fun hH => ?_
            have hS : SL [(11, .blk bo (.cells #[.map (some bmo), .slice Ar20 rt.length cr20] 106 (0, 0))), (1, .ro (.blk bd (.cells #[.map (some bm), .slice Ar rt.length cr] 106 (0, 0)))), (82, .lk KI bm p65.1 (some (.agg #[.slice A82 x82.1.length c82, .int .i64 x82.2]))), (2082, .rd_ (.int .u8) A82 x82.1 c82 (fun k => okm k ∧ k ≠ bm))] _ := SL.of hH (sub_cons (sub_cons (sub_cons (sub_cons (sub_nil _) 2082 rfl) 82 rfl) 1 rfl) 11 rfl)
            refine r_take 0 hF rfl rfl rfl (by kernel_rfl) (by kernel_rfl) (by kernel_rfl) (fun _ _ _ h => h) rfl hS (fun w hS => x_move (hF.tmp 5 rfl)) rfl ?_; clear hF; intro a hF
            refine r_take 1 hF rfl rfl rfl (by kernel_rfl) (by kernel_rfl) (by kernel_rfl) (fun _ _ _ h => h) rfl hS (fun w hS => x_nil (hF.tmp 72 rfl)) rfl ?_; clear hF; intro a hF
            refine r_take 2 hF rfl rfl rfl (by kernel_rfl) (by kernel_rfl) (by kernel_rfl) (fun _ _ _ h => h) rfl hS (fun w hS => x_faddr Try.underlying106 rfl ty104 (by decide) (hF.tmp 73 rfl) rfl) rfl ?_; clear hF; intro a hF
            refine r_take 3 hF rfl rfl rfl (by kernel_rfl) (by kernel_rfl) (by kernel_rfl) (fun _ _ _ h => h) rfl hS (fun w hS => x_load1 ty104 (hF.tmp 74 rfl) (blk_cell (SL.at_ hS 11 rfl) 0 rfl)) rfl ?_; clear hF; intro a hF
            refine r_take 4 hF rfl rfl rfl (by kernel_rfl) (by kernel_rfl) (by kernel_rfl) (fun _ _ _ h => h) rfl hS (fun w hS => x_move (hF.tmp 10 rfl)) rfl ?_; clear hF; intro a hF
            refine r_take 5 hF rfl rfl rfl (by kernel_rfl) (by kernel_rfl) (by kernel_rfl) (fun _ _ _ h => h) rfl hS (fun w hS => x_move (hF.tmp 0 rfl)) rfl ?_; clear hF; intro a hF
            refine r_take 6 hF rfl rfl rfl (by kernel_rfl) (by kernel_rfl) (by kernel_rfl) (fun _ _ _ h => h) rfl hS (fun w hS => x_nil (hF.tmp 77 rfl)) rfl ?_; clear hF; intro a hF
            refine r_take 7 hF rfl rfl rfl (by kernel_rfl) (by kernel_rfl) (by kernel_rfl) (fun _ _ _ h => h) rfl hS (fun w hS => x_faddr Try.underlying106 rfl ty104 (by decide) (hF.tmp 78 rfl) rfl) rfl ?_; clear hF; intro a hF
            refine r_take 8 hF rfl rfl rfl (by kernel_rfl) (by kernel_rfl) (by kernel_rfl) (fun _ _ _ h => h) rfl hS (fun w hS => x_load1 ty104 (hF.tmp 79 rfl) (blk_cell (SL.atro hS 1 rfl) 0 rfl)) rfl ?_; clear hF; intro a hF
            refine r_take 9 hF rfl rfl rfl (by kernel_rfl) (by kernel_rfl) (by kernel_rfl) (fun _ _ _ h => h) rfl hS (fun w hS => x_move (hF.tmp 10 rfl)) rfl ?_; clear hF; intro a hF
            refine r_take 10 hF rfl rfl rfl (by kernel_rfl) (by kernel_rfl) (by kernel_rfl) (fun _ _ _ h => h) rfl hS (fun w hS => x_lookL (hS 82 _ rfl) Try.underlying104 Try.underlying3 (ty108).zero (hF.tmp 80 rfl) (hF.tmp 81 rfl)) rfl ?_; clear hF; intro a hF
            refine r_take 11 hF rfl rfl rfl (by kernel_rfl) (by kernel_rfl) (by kernel_rfl) (fun _ _ _ h => h) rfl hS (fun w hS => x_fieldV Try.underlying108 rfl ty42 (hF.tmp 82 rfl) rfl) rfl ?_; clear hF; intro a hF
            refine r_take 12 hF rfl rfl rfl (by kernel_rfl) (by kernel_rfl) (by kernel_rfl) (fun _ _ _ h => h) rfl hS (fun w hS => x_move (hF.tmp 11 rfl)) rfl ?_; clear hF; intro a hF
            refine r_take 13 hF rfl rfl rfl (by kernel_rfl) (by kernel_rfl) (by kernel_rfl) (fun _ _ _ h => h) rfl hS (fun w hS => x_slice_h Try.underlying42 ty5 (hF.tmp 83 rfl) (hF.tmp 84 rfl) hp0 hp1 ((hH.rd 2082 rfl)).1) rfl ?_; clear hF; intro a hF
            refine r_take 15 hF rfl rfl rfl (by kernel_rfl) (by kernel_rfl) (by kernel_rfl) (fun _ _ _ h => h) rfl hS (fun w hS => x_move (hF.tmp 11 rfl)) rfl ?_; clear hF; intro a hF
            refine r_do 14 rfl (by kernel_rfl) rfl rfl ?_
            refine w_call hF (x_enter Try.func68 (by kernel_rfl) rfl (by simp only [List.map_toArray, List.map_cons, List.map_nil, hF.tmp 85 rfl] <;> rfl)) (clone_calls _ ((Rd.take ((hH.rd 2082 rfl)) p65.2.toNat)) (by rw [List.length_take]; omega)) rfl rfl ?_
            rintro _ w ⟨vr86, rfl, hm_, hr_⟩; refine ⟨_, rfl, ?_⟩; clear hF; intro a hF; have hH := Hp.rowOut hH 86 hm_ hr_; obtain ⟨Ar86, cr86, rfl⟩ := (hH.row 86 rfl).form
            clear hS; have hS : SL _ _ := SL.of hH (sub_cons (sub_cons (sub_cons (sub_cons (sub_nil _) 2082 rfl) 82 rfl) 1 rfl) 11 rfl); refine ⟨hS, ?_⟩
            have hb86 : ∀ k, (Value.slice Ar86 (x82.1.take p65.2.toNat).length cr86).ownBlock = some k → w0.heap.size ≤ k := fun k hk => (hH.mine 86 _ rfl k hk).resolve_left (fun h => h)
            have hH := hH.freeze 86 rfl (fun k => (Value.slice Ar86 (x82.1.take p65.2.toNat).length cr86).ownBlock = some k) (fun k => ⟨fun h => .inr h, fun h => h.resolve_left id⟩)
            refine r_take 16 hF rfl rfl rfl (by kernel_rfl) (by kernel_rfl) (by kernel_rfl) (fun _ _ _ h => h) rfl hS (fun w hS => x_buildS (cells := #[.slice Ar86 (x82.1.take p65.2.toNat).length cr86, .int .i64 p65.2]) (places := #[(0, 1), (1, 1)]) Try.underlying108 ty108 (by kernel_rfl) (by simp only [List.map_toArray, List.map_cons, List.map_nil, hF.tmp 86 rfl, hF.tmp 87 rfl] <;> rfl) rfl) rfl ?_; clear hF; intro a hF
            refine r_do 17 rfl (by kernel_rfl) rfl rfl ?_
            refine w_mapSet 12 (k := p65.1) (yv := ((x82.1.take p65.2.toNat), p65.2)) (fun k => oko k ∨ (fun k => (Value.slice Ar86 (x82.1.take p65.2.toNat).length cr86).ownBlock = some k) k) hH rfl Try.underlying104 Try.underlying3 (hF.tmp 75 rfl) (hF.tmp 76 rfl) (hF.tmp 88 rfl) (seg_mk (x := ((x82.1.take p65.2.toNat), p65.2)) (((hH.rd 86 rfl)).move (fun _ _ _ => rfl) (fun k hk _ => ⟨.inr hk, fun e => hH.sep 12 86 _ _ (by decide) rfl rfl k e (.inr hk)⟩))) (fun k hk => .inl hk) (fun k hk => hk.elim .inl (fun h => .inr ⟨86, _, rfl, h⟩)) ?_
            clear hH; intro w hH
            clear hS; have hS : SL _ _ := SL.of hH (sub_cons (sub_cons (sub_cons (sub_cons (sub_nil _) 2082 rfl) 82 rfl) 1 rfl) 11 rfl); refine ⟨hS, ?_⟩
            have hperm : ((mput mo p65.1 ((x82.1.take p65.2.toNat), p65.2)) ++ outL m (r1 ++ r2)).Perm (powL m keep) := by rw [← hg82]; exact out_put (powL_keys hinv.keys keep) hr1 hq2_0 hc71
            have hoko2 : ∀ k, (fun k => oko k ∨ (fun k => (Value.slice Ar86 (x82.1.take p65.2.toNat).length cr86).ownBlock = some k) k) k ∧ k ≠ bmo → w0.heap.size ≤ k := fun k hk => hk.1.elim (fun h => hq2_1 k ⟨h, hk.2⟩) (hb86 k)
            refine r_end (by kernel_rfl) ?_; clear hS
            exact ⟨_, (by rw [hr1]; simp only [List.length_append, List.length_cons]; omega), ⟨r1 ++ r2, _, _, _, rfl, hperm, hoko2, fun p hp => hq2_2 p (by rw [hr1]; rcases List.mem_append.1 hp with h | h; exact List.mem_append_left _ h; exact List.mem_append_right _ (List.mem_cons_of_mem _ h)), (((hF.bare.add hF 64 rfl).add hF 5 rfl).add hF 0 rfl), hH.sub _ (sub_cons (sub_cons (sub_cons (sub_cons (sub_cons (sub_cons (sub_cons (sub_cons (sub_cons (sub_cons (sub_cons (sub_nil _) 64 rfl) 25 rfl) 23 rfl) 20 rfl) 13 rfl) 12 rfl) 11 rfl) 902 rfl) 3 rfl) 2 rfl) 1 rfl)⟩⟩
          · try simp only [Bool.or_eq_true, Bool.and_eq_true, Bool.or_eq_false_iff, Bool.and_eq_false_iff, Bool.not_eq_true', Bool.not_eq_false', decide_eq_true_eq, decide_eq_false_iff_not, Bool.not_true, Bool.not_false] at hc71
            have hperm := out_none hr1 hq2_0 hc71
            have hoko2 := hq2_1
            refine wp_skip ?_
            exact ⟨_, (by rw [hr1]; simp only [List.length_append, List.length_cons]; omega), ⟨r1 ++ r2, _, _, _, rfl, hperm, hoko2, fun p hp => hq2_2 p (by rw [hr1]; rcases List.mem_append.1 hp with h | h; exact List.mem_append_left _ h; exact List.mem_append_right _ (List.mem_cons_of_mem _ h)), (((hF.bare.add hF 64 rfl).add hF 5 rfl).add hF 0 rfl), hH.sub _ (sub_cons (sub_cons (sub_cons (sub_cons (sub_cons (sub_cons (sub_cons (sub_cons (sub_cons (sub_cons (sub_cons (sub_nil _) 64 rfl) 25 rfl) 23 rfl) 20 rfl) 13 rfl) 12 rfl) 11 rfl) 902 rfl) 3 rfl) 2 rfl) 1 rfl)⟩⟩

end Go.Proofs.Ytkocinnoncacgaa.Dsk
