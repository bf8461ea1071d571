/- The walks of crc's matrix. -/
import Derived.Test.YtjcpjkdadigkpaaDoorCrcM
import Derived.Test.YtjcpjkdadigkpaaDoorCrcA
set_option linter.unusedVariables false
set_option linter.unusedSimpArgs false
namespace Go.Proofs.YtjcpjkdadigkpaaDoor.Crc
open Go.RowKit Go.Proofs.YtjcpjkdadigkpaaDoor.Sx
theorem ty22 : TyI Tryd.prog 22 (.slice none 0 0) 1 24 false := ⟨by kernel_rfl, _, Tryd.underlying22, rfl⟩
theorem ty38 : TyI Tryd.prog 38 (.agg #[.int .u32 0, .int .u32 0, .int .u32 0, .int .u32 0, .int .u32 0, .int .u32 0, .int .u32 0, .int .u32 0, .int .u32 0, .int .u32 0, .int .u32 0, .int .u32 0, .int .u32 0, .int .u32 0, .int .u32 0, .int .u32 0, .int .u32 0, .int .u32 0, .int .u32 0, .int .u32 0, .int .u32 0, .int .u32 0, .int .u32 0, .int .u32 0, .int .u32 0, .int .u32 0, .int .u32 0, .int .u32 0, .int .u32 0, .int .u32 0, .int .u32 0, .int .u32 0]) 32 128 true := ⟨by kernel_rfl, _, Tryd.underlying38, rfl⟩
set_option maxHeartbeats 800000 in
theorem tz_calls (w0 : World) (y : B32) (hy : y ≠ 0#32) {okT : Nat → Prop} (hT : Rd (.int .u8) w0 okT (some ⟨0, 0, none⟩) tabI 32) : Calls Tryd.prog 17 #[.int .u32 ((y).toNat : Int)] w0 fun e w' => e = .returned (.int .i64 ((Lib.ctz 32 y.toNat : Nat) : Int)) ∧ Mods (fun _ => False) w0 w' := by
  refine calls_of_wp Tryd.func17 rfl ?_
  have hF := Fr.enter #[.int .u32 ((y).toNat : Int)] 14 (slotsOf [.int .u32 ((y).toNat : Int)] 0) (Nat.le_of_ble_eq_true rfl) (fun i v h => by have h2 := (get_slotsOf _ 0 i v h).2; simpa only [List.getElem?_toArray, Nat.sub_zero] using h2)
  have hH := Hp.nil (fun _ => False) w0
  rw [Tryd.ntmps17]
  revert hF; generalize (⟨(#[.int .u32 ((y).toNat : Int)] : Array Value) ++ Array.replicate (14 - (#[.int .u32 ((y).toNat : Int)] : Array Value).size) undef, []⟩ : Act) = a; intro hF
  have hH := hH.arg 902 hT.all (fun _ h => ⟨h, fun h => h⟩)
  have hy0 : y.toNat ≠ 0 := fun e => hy (BitVec.eq_of_toNat_eq (by simpa using e))
  obtain ⟨i, hi, hkey, hat⟩ := tz_key y hy
  have hctz := (Lib.lowest_bit 32 y.toNat hy0 y.isLt).2
  refine wp_seq_k fun khK1 hK1 => ?_
  refine wp_region_lit ?_
  refine l_at hF rfl rfl rfl (x_assign rfl) ?_; clear hF; intro a hF
  refine wpList_nil ?_
  refine hK1 _ _ ?_
  refine wp_seq_k fun khK2 hK2 => ?_
  refine wp_seq_k fun khK3 hK3 => ?_
  refine wp_region_lit ?_
  refine l_at hF rfl rfl rfl (x_move (hF.tmp 0 rfl)) ?_; clear hF; intro a hF
  refine l_at hF rfl rfl rfl (x_eql (hF.tmp 3 rfl) rfl) ?_; clear hF; intro a hF
  refine wpList_nil ?_
  refine hK3 _ _ ?_
  refine wp_cond_false ((hF.tmp 4 rfl).trans (by rw [decide_eq_false (by omega)])) ?_
  refine wp_skip ?_
  refine hK2 _ _ ?_
  refine wp_seq_k fun khK4 hK4 => ?_
  refine wp_region_lit ?_
  refine l_at hF rfl rfl rfl (x_move (hF.tmp 0 rfl)) ?_; clear hF; intro a hF
  refine l_at hF rfl rfl rfl (x_move (hF.tmp 0 rfl)) ?_; clear hF; intro a hF
  refine l_at hF rfl rfl rfl (x_neg (hF.tmp 6 rfl) rfl) ?_; clear hF; intro a hF
  refine l_at hF rfl rfl rfl (x_bits (by simp) (hF.tmp 5 rfl) (hF.tmp 7 rfl) rfl) ?_; clear hF; intro a hF
  refine l_at hF rfl rfl rfl (x_mul (hF.tmp 8 rfl) rfl rfl) ?_; clear hF; intro a hF
  refine l_at hF rfl rfl rfl (x_shr (hF.tmp 9 rfl) rfl (by omega) hkey) ?_; clear hF; intro a hF
  refine l_at hF rfl rfl rfl (x_iaddr_arr Tryd.underlying42 ty5 rfl (hF.tmp 10 rfl) (by omega) (by omega)) ?_; clear hF; intro a hF
  refine l_at hF rfl rfl rfl (x_load1 ty5 (hF.tmp 11 rfl) (rd_cell0 (hH.rd 902 rfl) (i := (i : Int).toNat) (show tabI[(i : Int).toNat]? = _ from hat))) ?_; clear hF; intro a hF
  refine l_at hF rfl rfl rfl (x_conv Tryd.underlying3 ⟨_, Tryd.underlying5⟩ (hF.tmp 12 rfl) (w64 (by omega) (by omega))) ?_; clear hF; intro a hF
  refine l_at hF rfl rfl rfl (x_assign (hF.tmp 13 rfl)) ?_; clear hF; intro a hF
  refine wpList_nil ?_
  refine hK4 _ _ ?_
  refine wp_ret ?_
  try simp only [Exit.then, Exit.inBlock]
  exact fin_ret hF (res1 hF rfl rfl) ⟨rfl, hH.mods⟩

set_option maxHeartbeats 800000 in
theorem of_calls (w0 : World) (x : B32) {f : B32 → B32} (hf : Lin f) {b c : Nat} {ok : Nat → Prop} (hr : Rd (.int .u32) w0 ok (some ⟨b, 0, none⟩) (colI f) c) {okT : Nat → Prop} (hT : Rd (.int .u8) w0 okT (some ⟨0, 0, none⟩) tabI 32) : Calls Tryd.prog 16 #[.pointer (some ⟨b, 0, none⟩), .int .u32 ((x).toNat : Int)] w0 fun e w' => e = .returned (.int .u32 ((f x).toNat : Int)) ∧ Mods (fun _ => False) w0 w' := by
  refine calls_of_wp Tryd.func16 rfl ?_
  have hF := Fr.enter #[.pointer (some ⟨b, 0, none⟩), .int .u32 ((x).toNat : Int)] 21 (slotsOf [.pointer (some ⟨b, 0, none⟩), .int .u32 ((x).toNat : Int)] 0) (Nat.le_of_ble_eq_true rfl) (fun i v h => by have h2 := (get_slotsOf _ 0 i v h).2; simpa only [List.getElem?_toArray, Nat.sub_zero] using h2)
  have hH := Hp.nil (fun _ => False) w0
  rw [Tryd.ntmps16]
  revert hF; generalize (⟨(#[.pointer (some ⟨b, 0, none⟩), .int .u32 ((x).toNat : Int)] : Array Value) ++ Array.replicate (21 - (#[.pointer (some ⟨b, 0, none⟩), .int .u32 ((x).toNat : Int)] : Array Value).size) undef, []⟩ : Act) = a; intro hF
  have hH := hH.arg 901 hr.all (fun _ h => ⟨h, fun h => h⟩)
  have hH := hH.arg 902 hT.all (fun _ h => ⟨h, fun h => h⟩)
  refine wp_seq_k fun khK1 hK1 => ?_
  refine wp_region_lit ?_
  refine l_at hF rfl rfl rfl (x_assign rfl) ?_; clear hF; intro a hF
  refine wpList_nil ?_
  refine hK1 _ _ ?_
  refine wp_seq_k fun khK2 hK2 => ?_
  refine wp_region_lit ?_
  refine l_at hF rfl rfl rfl (x_assign (show _ = Value.int .u32 ((f (x ^^^ x)).toNat : Int) by rw [BitVec.xor_self, hf.zero]; rfl)) ?_; clear hF; intro a hF
  refine wpList_nil ?_
  refine hK2 _ _ ?_
  refine wp_seq_k fun khK3 hK3 => ?_
  refine wp_block ?_
  refine wp_loop_ghost (fun n_ a w => ∃ y : B32, n_ = y.toNat ∧ Fr 21 a [(0, .pointer (some ⟨b, 0, none⟩)), (1, .int .u32 ((y).toNat : Int)), (5, .int .u32 ((f (x ^^^ y)).toNat : Int))] ∧ Hp (fun _ => False) w0 w [(901, .rd_ (.int .u32) (some ⟨b, 0, none⟩) (colI f) c (fun k => k < w0.heap.size)), (902, .rd_ (.int .u8) (some ⟨0, 0, none⟩) tabI 32 (fun k => k < w0.heap.size))]) (x.toNat) ?_ ?_
  · exact ⟨x, rfl, (((hF.bare.add hF 5 rfl).add hF 1 rfl).add hF 0 rfl), hH.sub _ (sub_cons (sub_cons (sub_nil _) 902 rfl) 901 rfl)⟩
  · rintro _ a w ⟨y, rfl, hF, hH⟩
    refine wp_seq_k fun khK4 hK4 => ?_
    refine wp_seq_k fun khK5 hK5 => ?_
    refine wp_region_lit ?_
    refine l_at hF rfl rfl rfl (x_move (hF.tmp 1 rfl)) ?_; clear hF; intro a hF
    refine l_at hF rfl rfl rfl (x_neq (hF.tmp 6 rfl) rfl) ?_; clear hF; intro a hF
    refine wpList_nil ?_
    refine hK5 _ _ ?_
    refine wp_cond_split (hF.tmp 7 rfl) (fun hc7 => ?_) (fun hc7 => ?_)
    · try simp only [Bool.or_eq_true, Bool.and_eq_true, Bool.or_eq_false_iff, Bool.and_eq_false_iff, Bool.not_eq_true', Bool.not_eq_false', decide_eq_true_eq, decide_eq_false_iff_not, Bool.not_true, Bool.not_false] at hc7
      have hyn : y ≠ 0#32 := by intro e; subst e; exact hc7 rfl
      obtain ⟨k, hk, hke, hl1, hl2⟩ := low_bit y hyn
      refine wp_skip ?_
      refine hK4 _ _ ?_
      refine wp_seq_k fun khK6 hK6 => ?_
      refine wp_block ?_
      refine r_start [(901, .rd_ (.int .u32) (some ⟨b, 0, none⟩) (colI f) c (fun k => k < w0.heap.size)), (902, .rd_ (.int .u8) (some ⟨0, 0, none⟩) tabI 32 (fun k => k < w0.heap.size))] (by kernel_rfl) hH fun hH => ?_
      have hS : SL [(901, .rd_ (.int .u32) (some ⟨b, 0, none⟩) (colI f) c (fun k => k < w0.heap.size)), (902, .rd_ (.int .u8) (some ⟨0, 0, none⟩) tabI 32 (fun k => k < w0.heap.size))] _ := SL.of hH (sub_cons (sub_cons (sub_nil _) 902 rfl) 901 rfl)
      refine r_take 0 hF rfl rfl rfl (by kernel_rfl) (by kernel_rfl) (by kernel_rfl) (fun _ _ _ h => h) rfl hS (fun w hS => x_move (hF.tmp 5 rfl)) rfl ?_; clear hF; intro a hF
      refine r_take 1 hF rfl rfl rfl (by kernel_rfl) (by kernel_rfl) (by kernel_rfl) (fun _ _ _ h => h) rfl hS (fun w hS => x_move (hF.tmp 0 rfl)) rfl ?_; clear hF; intro a hF
      refine r_take 2 hF rfl rfl rfl (by kernel_rfl) (by kernel_rfl) (by kernel_rfl) (fun _ _ _ h => h) rfl hS (fun w hS => x_move (hF.tmp 1 rfl)) rfl ?_; clear hF; intro a hF
      refine r_take 4 hF rfl rfl rfl (by kernel_rfl) (by kernel_rfl) (by kernel_rfl) (fun _ _ _ h => h) rfl hS (fun w hS => x_nil (hF.tmp 13 rfl)) rfl ?_; clear hF; intro a hF
      refine r_do 3 rfl (by kernel_rfl) rfl rfl ?_
      refine w_call hF (x_enter Tryd.func17 (by kernel_rfl) rfl (by simp only [List.map_toArray, List.map_cons, List.map_nil, hF.tmp 14 rfl] <;> rfl)) (Calls.mono (tz_calls _ y hyn (hH.rd 902 rfl)) (fun e w h => by rw [← hke] at h; exact h)) rfl rfl ?_
      rintro _ w ⟨rfl, hm_⟩; refine ⟨_, rfl, ?_⟩; clear hF; intro a hF; have hH := hH.same hm_
      clear hS; have hS : SL _ _ := SL.of hH (sub_cons (sub_cons (sub_nil _) 902 rfl) 901 rfl); refine ⟨hS, ?_⟩
      refine r_take 5 hF rfl rfl rfl (by kernel_rfl) (by kernel_rfl) (by kernel_rfl) (fun _ _ _ h => h) rfl hS (fun w hS => x_iaddr_arr Tryd.underlying38 ty23 (hF.tmp 16 rfl) (hF.tmp 15 rfl) (by omega) (by omega)) rfl ?_; clear hF; intro a hF
      refine r_take 6 hF rfl rfl rfl (by kernel_rfl) (by kernel_rfl) (by kernel_rfl) (fun _ _ _ h => h) rfl hS (fun w hS => x_load1 ty23 (hF.tmp 17 rfl) (rd_cell0 (SL.rd hS 901 rfl) (i := (k : Int).toNat) (show (colI f)[(k : Int).toNat]? = _ from colI_at f hk))) rfl ?_; clear hF; intro a hF
      refine r_take 7 hF rfl rfl rfl (by kernel_rfl) (by kernel_rfl) (by kernel_rfl) (fun _ _ _ h => h) rfl hS (fun w hS => x_bits (by simp) (hF.tmp 12 rfl) (hF.tmp 18 rfl) ((bxor _ _).trans (by rw [of_step hf]))) rfl ?_; clear hF; intro a hF
      refine r_take 8 hF rfl rfl rfl (by kernel_rfl) (by kernel_rfl) (by kernel_rfl) (fun _ _ _ h => h) rfl hS (fun w hS => x_assign (hF.tmp 19 rfl)) rfl ?_; clear hF; intro a hF
      refine r_end (by kernel_rfl) ?_; clear hS
      refine hK6 _ _ ?_
      refine wp_region_lit ?_
      refine l_at hF rfl rfl rfl (x_move (hF.tmp 1 rfl)) ?_; clear hF; intro a hF
      refine l_at hF rfl rfl rfl (x_move (hF.tmp 1 rfl)) ?_; clear hF; intro a hF
      refine l_at hF rfl rfl rfl (x_sub (hF.tmp 9 rfl) rfl rfl) ?_; clear hF; intro a hF
      refine l_at hF rfl rfl rfl (x_bits (by simp) (hF.tmp 8 rfl) (hF.tmp 10 rfl) ((dec_B y).trans (by rw [hl1]))) ?_; clear hF; intro a hF
      refine l_at hF rfl rfl rfl (x_assign (hF.tmp 11 rfl)) ?_; clear hF; intro a hF
      refine wpList_nil ?_
      exact ⟨_, by rw [← hl1]; exact hl2, ⟨y ^^^ one32 k, rfl, (((hF.bare.add hF 5 rfl).add hF 1 rfl).add hF 0 rfl), hH.sub _ (sub_cons (sub_cons (sub_nil _) 902 rfl) 901 rfl)⟩⟩
    · try simp only [Bool.or_eq_true, Bool.and_eq_true, Bool.or_eq_false_iff, Bool.and_eq_false_iff, Bool.not_eq_true', Bool.not_eq_false', decide_eq_true_eq, decide_eq_false_iff_not, Bool.not_true, Bool.not_false] at hc7
      obtain rfl : y = 0#32 := BitVec.eq_of_toNat_eq (by simp only [BitVec.toNat_ofNat]; omega)
      rw [BitVec.xor_zero] at hF
      refine wp_exit ?_
      refine hK3 _ _ ?_
      refine wp_seq_k fun khK7 hK7 => ?_
      refine wp_region_lit ?_
      refine l_at hF rfl rfl rfl (x_move (hF.tmp 5 rfl)) ?_; clear hF; intro a hF
      refine l_at hF rfl rfl rfl (x_assign (hF.tmp 20 rfl)) ?_; clear hF; intro a hF
      refine wpList_nil ?_
      refine hK7 _ _ ?_
      refine wp_ret ?_
      try simp only [Exit.then, Exit.inBlock]
      exact fin_ret hF (res1 hF rfl rfl) ⟨rfl, hH.mods⟩

set_option maxHeartbeats 800000 in
theorem twice_calls (w0 : World) {f : B32 → B32} (hf : Lin f) {b c : Nat} {ok : Nat → Prop} (hr : Rd (.int .u32) w0 ok (some ⟨b, 0, none⟩) (colI f) c) {okT : Nat → Prop} (hT : Rd (.int .u8) w0 okT (some ⟨0, 0, none⟩) tabI 32) : Calls Tryd.prog 15 #[.pointer (some ⟨b, 0, none⟩)] w0 fun e w' => ∃ b', e = .returned (.pointer (some ⟨b', 0, none⟩)) ∧ Mods (fun _ => False) w0 w' ∧ w0.heap.size ≤ b' ∧ w'.heap[b']? = some (.cells (colN (fun c => f (f c)) 32) 38 (0, 0)) := by
  refine calls_of_wp Tryd.func15 rfl ?_
  have hF := Fr.enter #[.pointer (some ⟨b, 0, none⟩)] 19 (slotsOf [.pointer (some ⟨b, 0, none⟩)] 0) (Nat.le_of_ble_eq_true rfl) (fun i v h => by have h2 := (get_slotsOf _ 0 i v h).2; simpa only [List.getElem?_toArray, Nat.sub_zero] using h2)
  have hH := Hp.nil (fun _ => False) w0
  rw [Tryd.ntmps15]
  revert hF; generalize (⟨(#[.pointer (some ⟨b, 0, none⟩)] : Array Value) ++ Array.replicate (19 - (#[.pointer (some ⟨b, 0, none⟩)] : Array Value).size) undef, []⟩ : Act) = a; intro hF
  have hH := hH.arg 901 hr.all (fun _ h => ⟨h, fun h => h⟩)
  have hH := hH.arg 902 hT.all (fun _ h => ⟨h, fun h => h⟩)
  refine wp_seq_k fun khK1 hK1 => ?_
  refine wp_region_lit ?_
  refine l_at hF rfl rfl rfl (x_assign rfl) ?_; clear hF; intro a hF
  refine wpList_nil ?_
  refine hK1 _ _ ?_
  refine wp_seq_k fun khK2 hK2 => ?_
  refine wp_region_lit ?_
  refine wpList_plain rfl fun K hK => ?_
  refine w_alloc 3 hF hH rfl ty38 ?_
  clear hF hH; intro a w b3 hF hH
  refine hK _ _ ?_; clear hK K
  have hH : Hp (fun _ => False) w0 w [(901, .rd_ (.int .u32) (some ⟨b, 0, none⟩) (colI f) c (fun k => k < w0.heap.size)), (902, .rd_ (.int .u8) (some ⟨0, 0, none⟩) tabI 32 (fun k => k < w0.heap.size)), (3, .blk b3 (.cells (colN (fun c => f (f c)) 0) 38 (0, 0)))] := by rw [← col0_eq (fun c => f (f c))]; exact hH.sub _ (sub_cons (sub_cons (sub_cons (sub_nil _) 3 rfl) 902 rfl) 901 rfl)
  refine wpList_nil ?_
  refine hK2 _ _ ?_
  refine wp_seq_k fun khK3 hK3 => ?_
  refine wp_seq_k fun khK4 hK4 => ?_
  refine wp_region_lit ?_
  refine l_at hF rfl rfl rfl (x_move (hF.tmp 0 rfl)) ?_; clear hF; intro a hF
  refine l_at hF rfl rfl rfl (x_move rfl) ?_; clear hF; intro a hF
  refine wpList_nil ?_
  refine hK4 _ _ ?_
  refine wp_block ?_
  refine wp_loop_ghost (fun n_ a w => ∃ k : Nat, n_ = 32 - k ∧ (k ≤ 32) ∧ Fr 19 a [(0, .pointer (some ⟨b, 0, none⟩)), (3, .pointer (some ⟨b3, 0, none⟩)), (6, .pointer (some ⟨b, 0, none⟩)), (7, .int .i64 (k : Int))] ∧ Hp (fun _ => False) w0 w [(901, .rd_ (.int .u32) (some ⟨b, 0, none⟩) (colI f) c (fun k => k < w0.heap.size)), (902, .rd_ (.int .u8) (some ⟨0, 0, none⟩) tabI 32 (fun k => k < w0.heap.size)), (3, .blk b3 (.cells (colN (fun c => f (f c)) k) 38 (0, 0)))]) (32) ?_ ?_
  · exact ⟨0, rfl, by omega, ((((hF.bare.add hF 7 rfl).add hF 6 rfl).add hF 3 rfl).add hF 0 rfl), hH.sub _ (sub_cons (sub_cons (sub_cons (sub_nil _) 3 rfl) 902 rfl) 901 rfl)⟩
  · rintro _ a w ⟨k, rfl, hq0_0, hF, hH⟩
    refine wp_seq_k fun khK5 hK5 => ?_
    refine wp_region_lit ?_
    refine l_at hF rfl rfl rfl (x_lss (hF.tmp 7 rfl) rfl) ?_; clear hF; intro a hF
    refine wpList_nil ?_
    refine hK5 _ _ ?_
    refine wp_seq_k fun khK6 hK6 => ?_
    refine wp_cond_split (hF.tmp 8 rfl) (fun hc8 => ?_) (fun hc8 => ?_)
    · try simp only [Bool.or_eq_true, Bool.and_eq_true, Bool.or_eq_false_iff, Bool.and_eq_false_iff, Bool.not_eq_true', Bool.not_eq_false', decide_eq_true_eq, decide_eq_false_iff_not, Bool.not_true, Bool.not_false] at hc8
      refine wp_skip ?_
      refine hK6 _ _ ?_
      refine wp_seq_k fun khK7 hK7 => ?_
      refine wp_block ?_
      refine wp_seq_k fun khK8 hK8 => ?_
      refine r_start [(901, .rd_ (.int .u32) (some ⟨b, 0, none⟩) (colI f) c (fun k => k < w0.heap.size))] (by kernel_rfl) hH fun hH => ?_
      have hS : SL [(901, .rd_ (.int .u32) (some ⟨b, 0, none⟩) (colI f) c (fun k => k < w0.heap.size))] _ := SL.of hH (sub_cons (sub_nil _) 901 rfl)
      refine r_take 0 hF rfl rfl rfl (by kernel_rfl) (by kernel_rfl) (by kernel_rfl) (fun _ _ _ h => h) rfl hS (fun w hS => x_move (hF.tmp 7 rfl)) rfl ?_; clear hF; intro a hF
      refine r_take 1 hF rfl rfl rfl (by kernel_rfl) (by kernel_rfl) (by kernel_rfl) (fun _ _ _ h => h) rfl hS (fun w hS => x_nil (hF.tmp 6 rfl)) rfl ?_; clear hF; intro a hF
      refine r_take 2 hF rfl rfl rfl (by kernel_rfl) (by kernel_rfl) (by kernel_rfl) (fun _ _ _ h => h) rfl hS (fun w hS => x_iaddr_arr Tryd.underlying38 ty23 (hF.tmp 10 rfl) (hF.tmp 7 rfl) (by omega) (by omega)) rfl ?_; clear hF; intro a hF
      refine r_take 3 hF rfl rfl rfl (by kernel_rfl) (by kernel_rfl) (by kernel_rfl) (fun _ _ _ h => h) rfl hS (fun w hS => x_load1 ty23 (hF.tmp 11 rfl) (rd_cell0 (SL.rd hS 901 rfl) (i := (k : Int).toNat) (show (colI f)[(k : Int).toNat]? = _ from colI_at f (by omega)))) rfl ?_; clear hF; intro a hF
      refine r_take 4 hF rfl rfl rfl (by kernel_rfl) (by kernel_rfl) (by kernel_rfl) (fun _ _ _ h => h) rfl hS (fun w hS => x_assign (hF.tmp 9 rfl)) rfl ?_; clear hF; intro a hF
      refine r_take 5 hF rfl rfl rfl (by kernel_rfl) (by kernel_rfl) (by kernel_rfl) (fun _ _ _ h => h) rfl hS (fun w hS => x_assign (hF.tmp 12 rfl)) rfl ?_; clear hF; intro a hF
      refine r_end (by kernel_rfl) ?_; clear hS
      refine hK8 _ _ ?_
      refine wp_region_lit ?_
      refine l_at hF rfl rfl rfl (x_move (hF.tmp 4 rfl)) ?_; clear hF; intro a hF
      refine l_at hF rfl rfl rfl (x_move (hF.tmp 0 rfl)) ?_; clear hF; intro a hF
      refine l_at hF rfl rfl rfl (x_move (hF.tmp 5 rfl)) ?_; clear hF; intro a hF
      refine wpList_plain rfl fun K hK => ?_
      refine w_call hF (x_enter Tryd.func16 (by kernel_rfl) rfl (by simp only [List.map_toArray, List.map_cons, List.map_nil, hF.tmp 14 rfl, hF.tmp 15 rfl] <;> rfl)) (of_calls _ (f (one32 k)) hf (hH.rd 901 rfl) (hH.rd 902 rfl)) rfl rfl ?_
      rintro _ w ⟨rfl, hm_⟩; refine ⟨_, rfl, ?_⟩; clear hF; intro a hF; have hH := hH.same hm_
      refine hK _ _ ?_; clear hK K
      refine l_at hF rfl rfl rfl (x_iaddr_arr Tryd.underlying38 ty23 (hF.tmp 3 rfl) (hF.tmp 13 rfl) (by omega) (by omega)) ?_; clear hF; intro a hF
      refine wpList_plain rfl fun K hK => ?_
      refine w_store 3 hH ty23 rfl (hF.tmp 17 rfl) (hF.tmp 16 rfl) rfl (one1 rfl rfl) (by rw [colN_size]; omega) ?_
      clear hH; intro w hH
      refine hK _ _ ?_; clear hK K
      have hH : Hp (fun _ => False) w0 w [(901, .rd_ (.int .u32) (some ⟨b, 0, none⟩) (colI f) c (fun k => k < w0.heap.size)), (902, .rd_ (.int .u8) (some ⟨0, 0, none⟩) tabI 32 (fun k => k < w0.heap.size)), (3, .blk b3 (.cells (colN (fun c => f (f c)) (k + 1)) 38 (0, 0)))] := by rw [← colN_step _ _ (by omega)]; exact hH.sub _ (sub_cons (sub_cons (sub_cons (sub_nil _) 3 rfl) 902 rfl) 901 rfl)
      refine wpList_nil ?_
      refine hK7 _ _ ?_
      refine wp_region_lit ?_
      refine l_at hF rfl rfl rfl (x_add (hF.tmp 7 rfl) rfl (w64 (by omega) (by omega))) ?_; clear hF; intro a hF
      refine l_at hF rfl rfl rfl (x_move (hF.tmp 18 rfl)) ?_; clear hF; intro a hF
      refine wpList_nil ?_
      exact ⟨_, by omega, ⟨k + 1, rfl, by omega, ((((hF.bare.add hF 7 rfl).add hF 6 rfl).add hF 3 rfl).add hF 0 rfl), hH.sub _ (sub_cons (sub_cons (sub_cons (sub_nil _) 3 rfl) 902 rfl) 901 rfl)⟩⟩
    · try simp only [Bool.or_eq_true, Bool.and_eq_true, Bool.or_eq_false_iff, Bool.and_eq_false_iff, Bool.not_eq_true', Bool.not_eq_false', decide_eq_true_eq, decide_eq_false_iff_not, Bool.not_true, Bool.not_false] at hc8
      obtain rfl : k = 32 := by omega
      refine wp_exit ?_
      refine hK3 _ _ ?_
      refine wp_seq_k fun khK9 hK9 => ?_
      refine wp_region_lit ?_
      refine l_at hF rfl rfl rfl (x_assign (hF.tmp 3 rfl)) ?_; clear hF; intro a hF
      refine wpList_nil ?_
      refine hK9 _ _ ?_
      refine wp_ret ?_
      try simp only [Exit.then, Exit.inBlock]
      exact fin_ret hF (res1 hF rfl rfl) ⟨b3, rfl, hH.mods, (hH.mine 3 _ rfl b3 rfl).resolve_left (fun h => h), hH.at 3 rfl⟩

set_option maxHeartbeats 800000 in
theorem shift_calls (w0 : World) (x : B32) (n : Int) {okT : Nat → Prop} (hT : Rd (.int .u8) w0 okT (some ⟨0, 0, none⟩) tabI 32) : Calls Tryd.prog 14 #[.int .u32 ((x).toNat : Int), .int .i64 n] w0 fun e w' => e = .returned (.int .u32 ((shiftB x n.toNat).toNat : Int)) ∧ Mods (fun _ => False) w0 w' := by
  refine calls_of_wp Tryd.func14 rfl ?_
  have hF := Fr.enter #[.int .u32 ((x).toNat : Int), .int .i64 n] 38 (slotsOf [.int .u32 ((x).toNat : Int), .int .i64 n] 0) (Nat.le_of_ble_eq_true rfl) (fun i v h => by have h2 := (get_slotsOf _ 0 i v h).2; simpa only [List.getElem?_toArray, Nat.sub_zero] using h2)
  have hH := Hp.nil (fun _ => False) w0
  rw [Tryd.ntmps14]
  revert hF; generalize (⟨(#[.int .u32 ((x).toNat : Int), .int .i64 n] : Array Value) ++ Array.replicate (38 - (#[.int .u32 ((x).toNat : Int), .int .i64 n] : Array Value).size) undef, []⟩ : Act) = a; intro hF
  have hH := hH.arg 902 hT.all (fun _ h => ⟨h, fun h => h⟩)
  refine wp_seq_k fun khK1 hK1 => ?_
  refine wp_region_lit ?_
  refine l_at hF rfl rfl rfl (x_assign rfl) ?_; clear hF; intro a hF
  refine wpList_nil ?_
  refine hK1 _ _ ?_
  refine wp_seq_k fun khK2 hK2 => ?_
  refine wp_region_lit ?_
  refine l_at hF rfl rfl rfl (x_buildA Tryd.underlying38 ty38 ty23 rfl (show _ = some col1 by kernel_rfl)) ?_; clear hF; intro a hF
  refine wpList_plain rfl fun K hK => ?_
  refine w_box 8 hF hH rfl (hF.tmp 7 rfl) ?_
  clear hF hH; intro a w b8 hF hH
  refine hK _ _ ?_; clear hK K
  have hH : Hp (fun _ => False) w0 w [(902, .rd_ (.int .u8) (some ⟨0, 0, none⟩) tabI 32 (fun k => k < w0.heap.size)), (8, .blk b8 (.cells (colN (stpB 1) 1) 38 (0, 0)))] := by rw [← col1_eq]; exact hH.sub _ (sub_cons (sub_cons (sub_nil _) 8 rfl) 902 rfl)
  refine l_at hF rfl rfl rfl (x_assign (hF.tmp 8 rfl)) ?_; clear hF; intro a hF
  refine wpList_nil ?_
  refine hK2 _ _ ?_
  refine wp_seq_k fun khK3 hK3 => ?_
  refine wp_seq_k fun khK4 hK4 => ?_
  refine wp_region_lit ?_
  refine l_at hF rfl rfl rfl (x_assign rfl) ?_; clear hF; intro a hF
  refine wpList_nil ?_
  refine hK4 _ _ ?_
  refine wp_block ?_
  refine wp_loop_ghost (fun n_ a w => ∃ i : Nat, n_ = 32 - i ∧ (1 ≤ i) ∧ (i ≤ 32) ∧ Fr 38 a [(0, .int .u32 ((x).toNat : Int)), (1, .int .i64 n), (5, .pointer (some ⟨b8, 0, none⟩)), (6, .int .i64 (i : Int))] ∧ Hp (fun _ => False) w0 w [(902, .rd_ (.int .u8) (some ⟨0, 0, none⟩) tabI 32 (fun k => k < w0.heap.size)), (8, .blk b8 (.cells (colN (stpB 1) i) 38 (0, 0)))]) (31) ?_ ?_
  · exact ⟨1, rfl, by omega, by omega, ((((hF.bare.add hF 6 rfl).add hF 5 rfl).add hF 1 rfl).add hF 0 rfl), hH.sub _ (sub_cons (sub_cons (sub_nil _) 8 rfl) 902 rfl)⟩
  · rintro _ a w ⟨i, rfl, hq0_0, hq0_1, hF, hH⟩
    refine wp_seq_k fun khK5 hK5 => ?_
    refine wp_seq_k fun khK6 hK6 => ?_
    refine wp_region_lit ?_
    refine l_at hF rfl rfl rfl (x_move (hF.tmp 6 rfl)) ?_; clear hF; intro a hF
    refine l_at hF rfl rfl rfl (x_lss (hF.tmp 9 rfl) rfl) ?_; clear hF; intro a hF
    refine wpList_nil ?_
    refine hK6 _ _ ?_
    refine wp_cond_split (hF.tmp 10 rfl) (fun hc10 => ?_) (fun hc10 => ?_)
    · try simp only [Bool.or_eq_true, Bool.and_eq_true, Bool.or_eq_false_iff, Bool.and_eq_false_iff, Bool.not_eq_true', Bool.not_eq_false', decide_eq_true_eq, decide_eq_false_iff_not, Bool.not_true, Bool.not_false] at hc10
      refine wp_skip ?_
      refine hK5 _ _ ?_
      refine wp_seq_k fun khK7 hK7 => ?_
      refine wp_block ?_
      refine r_start [] (by kernel_rfl) hH fun hH => ?_
      have hS : SL [] _ := SL.of hH (sub_nil _)
      refine r_take 0 hF rfl rfl rfl (by kernel_rfl) (by kernel_rfl) (by kernel_rfl) (fun _ _ _ h => h) rfl hS (fun w hS => x_move (hF.tmp 5 rfl)) rfl ?_; clear hF; intro a hF
      refine r_take 1 hF rfl rfl rfl (by kernel_rfl) (by kernel_rfl) (by kernel_rfl) (fun _ _ _ h => h) rfl hS (fun w hS => x_move (hF.tmp 6 rfl)) rfl ?_; clear hF; intro a hF
      refine r_take 2 hF rfl rfl rfl (by kernel_rfl) (by kernel_rfl) (by kernel_rfl) (fun _ _ _ h => h) rfl hS (fun w hS => x_move (hF.tmp 6 rfl)) rfl ?_; clear hF; intro a hF
      refine r_take 3 hF rfl rfl rfl (by kernel_rfl) (by kernel_rfl) (by kernel_rfl) (fun _ _ _ h => h) rfl hS (fun w hS => x_sub (hF.tmp 15 rfl) rfl (w64 (by omega) (by omega))) rfl ?_; clear hF; intro a hF
      refine r_take 4 hF rfl rfl rfl (by kernel_rfl) (by kernel_rfl) (by kernel_rfl) (fun _ _ _ h => h) rfl hS (fun w hS => x_shl rfl (hF.tmp 16 rfl) (by omega) (bit_one i (by omega) (by omega)).symm) rfl ?_; clear hF; intro a hF
      refine r_take 5 hF rfl rfl rfl (by kernel_rfl) (by kernel_rfl) (by kernel_rfl) (fun _ _ _ h => h) rfl hS (fun w hS => x_nil (hF.tmp 13 rfl)) rfl ?_; clear hF; intro a hF
      refine r_take 6 hF rfl rfl rfl (by kernel_rfl) (by kernel_rfl) (by kernel_rfl) (fun _ _ _ h => h) rfl hS (fun w hS => x_iaddr_arr Tryd.underlying38 ty23 (hF.tmp 18 rfl) (hF.tmp 14 rfl) (by omega) (by omega)) rfl ?_; clear hF; intro a hF
      refine r_do 7 rfl (by kernel_rfl) rfl rfl ?_
      refine w_store 8 hH ty23 rfl (hF.tmp 19 rfl) (hF.tmp 17 rfl) rfl (one1 rfl rfl) (by rw [colN_size]; omega) ?_
      clear hH; intro w hH
      clear hS; have hS : SL _ _ := SL.of hH (sub_nil _); refine ⟨hS, ?_⟩
      refine r_end (by kernel_rfl) ?_; clear hS
      refine hK7 _ _ ?_
      refine wp_region_lit ?_
      refine l_at hF rfl rfl rfl (x_move (hF.tmp 6 rfl)) ?_; clear hF; intro a hF
      refine l_at hF rfl rfl rfl (x_add (hF.tmp 11 rfl) rfl (w64 (by omega) (by omega))) ?_; clear hF; intro a hF
      refine l_at hF rfl rfl rfl (x_assign (hF.tmp 12 rfl)) ?_; clear hF; intro a hF
      refine wpList_nil ?_
      have hH : Hp (fun _ => False) w0 w [(902, .rd_ (.int .u8) (some ⟨0, 0, none⟩) tabI 32 (fun k => k < w0.heap.size)), (8, .blk b8 (.cells (colN (stpB 1) (i + 1)) 38 (0, 0)))] := by rw [← colN_step _ _ (by omega)]; exact hH.sub _ (sub_cons (sub_cons (sub_nil _) 8 rfl) 902 rfl)
      exact ⟨_, by omega, ⟨i + 1, rfl, by omega, by omega, ((((hF.bare.add hF 6 rfl).add hF 5 rfl).add hF 1 rfl).add hF 0 rfl), hH.sub _ (sub_cons (sub_cons (sub_nil _) 8 rfl) 902 rfl)⟩⟩
    · try simp only [Bool.or_eq_true, Bool.and_eq_true, Bool.or_eq_false_iff, Bool.and_eq_false_iff, Bool.not_eq_true', Bool.not_eq_false', decide_eq_true_eq, decide_eq_false_iff_not, Bool.not_true, Bool.not_false] at hc10
      obtain rfl : i = 32 := by omega
      refine wp_exit ?_
      refine hK3 _ _ ?_
      refine wp_seq_k fun khK8 hK8 => ?_
      refine wp_seq_k fun khK9 hK9 => ?_
      refine wp_region_lit ?_
      refine l_at hF rfl rfl rfl (x_move rfl) ?_; clear hF; intro a hF
      refine wpList_nil ?_
      refine hK9 _ _ ?_
      refine wp_block ?_
      refine wp_loop_ghost (fun n_ a w => ∃ j : Nat, ∃ b : Nat, n_ = 3 - j ∧ (j ≤ 3) ∧ Fr 38 a [(0, .int .u32 ((x).toNat : Int)), (1, .int .i64 n), (5, .pointer (some ⟨b, 0, none⟩)), (20, .int .i64 (j : Int))] ∧ Hp (fun _ => False) w0 w [(902, .rd_ (.int .u8) (some ⟨0, 0, none⟩) tabI 32 (fun k => k < w0.heap.size)), (8, .blk b (.cells (colN (stpB (2 ^ j)) 32) 38 (0, 0)))]) (3) ?_ ?_
      · exact ⟨0, b8, rfl, by omega, ((((hF.bare.add hF 20 rfl).add hF 5 rfl).add hF 1 rfl).add hF 0 rfl), hH.sub _ (sub_cons (sub_cons (sub_nil _) 8 rfl) 902 rfl)⟩
      · rintro _ a w ⟨j, b, rfl, hq2_0, hF, hH⟩
        refine wp_seq_k fun khK10 hK10 => ?_
        refine wp_region_lit ?_
        refine l_at hF rfl rfl rfl (x_lss (hF.tmp 20 rfl) rfl) ?_; clear hF; intro a hF
        refine wpList_nil ?_
        refine hK10 _ _ ?_
        refine wp_seq_k fun khK11 hK11 => ?_
        refine wp_cond_split (hF.tmp 21 rfl) (fun hc21 => ?_) (fun hc21 => ?_)
        · try simp only [Bool.or_eq_true, Bool.and_eq_true, Bool.or_eq_false_iff, Bool.and_eq_false_iff, Bool.not_eq_true', Bool.not_eq_false', decide_eq_true_eq, decide_eq_false_iff_not, Bool.not_true, Bool.not_false] at hc21
          refine wp_skip ?_
          refine hK11 _ _ ?_
          refine wp_seq_k fun khK12 hK12 => ?_
          refine wp_block ?_
          refine wp_region_lit ?_
          refine l_at hF rfl rfl rfl (x_move (hF.tmp 5 rfl)) ?_; clear hF; intro a hF
          refine wpList_plain rfl fun K hK => ?_
          refine w_call hF (x_enter Tryd.func15 (by kernel_rfl) rfl (by simp only [List.map_toArray, List.map_cons, List.map_nil, hF.tmp 22 rfl] <;> rfl)) (twice_calls _ (lin_stp _) (rd_of_blk (hH.at 8 rfl) (colN_all _) (by rw [colI_length]; decide)) (hH.rd 902 rfl)) rfl rfl ?_
          rintro _ w ⟨b23, rfl, hm_, hs_, hb_⟩; refine ⟨_, rfl, ?_⟩; clear hF; intro a hF; have hH := hH.fresh 8 hm_ hb_ hs_
          refine hK _ _ ?_; clear hK K
          refine l_at hF rfl rfl rfl (x_assign (hF.tmp 23 rfl)) ?_; clear hF; intro a hF
          refine wpList_nil ?_
          refine hK12 _ _ ?_
          refine wp_region_lit ?_
          refine l_at hF rfl rfl rfl (x_add (hF.tmp 20 rfl) rfl (w64 (by omega) (by omega))) ?_; clear hF; intro a hF
          refine l_at hF rfl rfl rfl (x_move (hF.tmp 24 rfl)) ?_; clear hF; intro a hF
          refine wpList_nil ?_
          have hHs : Hp (fun _ => False) w0 w [(902, .rd_ (.int .u8) (some ⟨0, 0, none⟩) tabI 32 (fun k => k < w0.heap.size)), (8, .blk b23 (.cells (colN (fun c => stpB (2 ^ j) (stpB (2 ^ j) c)) 32) 38 (0, 0)))] := hH.sub _ (sub_cons (sub_cons (sub_nil _) 8 rfl) 902 rfl)
          rw [stp_two, show 2 ^ j + 2 ^ j = 2 ^ (j + 1) by rw [Nat.pow_succ]; omega] at hHs
          exact ⟨_, by omega, ⟨j + 1, b23, rfl, by omega, ((((hF.bare.add hF 20 rfl).add hF 5 rfl).add hF 1 rfl).add hF 0 rfl), hHs⟩⟩
        · try simp only [Bool.or_eq_true, Bool.and_eq_true, Bool.or_eq_false_iff, Bool.and_eq_false_iff, Bool.not_eq_true', Bool.not_eq_false', decide_eq_true_eq, decide_eq_false_iff_not, Bool.not_true, Bool.not_false] at hc21
          obtain rfl : j = 3 := by omega
          refine wp_exit ?_
          refine hK8 _ _ ?_
          refine wp_seq_k fun khK13 hK13 => ?_
          refine wp_block ?_
          refine wp_loop_ghost (fun n_ a w => ∃ d : Nat, ∃ q : Int, ∃ y : B32, ∃ b : Nat, n_ = q.toNat ∧ (stpB (d * q.toNat) y = stpB (8 * n.toNat) x) ∧ Fr 38 a [(0, .int .u32 ((y).toNat : Int)), (1, .int .i64 q), (5, .pointer (some ⟨b, 0, none⟩))] ∧ Hp (fun _ => False) w0 w [(902, .rd_ (.int .u8) (some ⟨0, 0, none⟩) tabI 32 (fun k => k < w0.heap.size)), (8, .blk b (.cells (colN (stpB d) 32) 38 (0, 0)))]) (n.toNat) ?_ ?_
          · exact ⟨2 ^ 3, n, x, b, rfl, rfl, (((hF.bare.add hF 5 rfl).add hF 1 rfl).add hF 0 rfl), hH.sub _ (sub_cons (sub_cons (sub_nil _) 8 rfl) 902 rfl)⟩
          · rintro _ a w ⟨d, q, y, b, rfl, hq4_0, hF, hH⟩
            refine wp_seq_k fun khK14 hK14 => ?_
            refine wp_seq_k fun khK15 hK15 => ?_
            refine wp_region_lit ?_
            refine l_at hF rfl rfl rfl (x_move (hF.tmp 1 rfl)) ?_; clear hF; intro a hF
            refine l_at hF rfl rfl rfl (x_gtr (hF.tmp 25 rfl) rfl) ?_; clear hF; intro a hF
            refine wpList_nil ?_
            refine hK15 _ _ ?_
            refine wp_cond_split (hF.tmp 26 rfl) (fun hc26 => ?_) (fun hc26 => ?_)
            · try simp only [Bool.or_eq_true, Bool.and_eq_true, Bool.or_eq_false_iff, Bool.and_eq_false_iff, Bool.not_eq_true', Bool.not_eq_false', decide_eq_true_eq, decide_eq_false_iff_not, Bool.not_true, Bool.not_false] at hc26
              refine wp_skip ?_
              refine hK14 _ _ ?_
              refine wp_seq_k fun khK16 hK16 => ?_
              refine wp_block ?_
              refine wp_seq_k fun khK17 hK17 => ?_
              refine wp_seq_k fun khK18 hK18 => ?_
              refine wp_region_lit ?_
              refine l_at hF rfl rfl rfl (x_move (hF.tmp 1 rfl)) ?_; clear hF; intro a hF
              refine l_at hF rfl rfl rfl (x_bits (by simp) (hF.tmp 29 rfl) rfl (and1_i64 q)) ?_; clear hF; intro a hF
              refine l_at hF rfl rfl rfl (x_eql (hF.tmp 30 rfl) rfl) ?_; clear hF; intro a hF
              refine wpList_nil ?_
              refine hK18 _ _ ?_
              have hJ31 : ∀ a w, ∀ y2 : B32, (stpB ((d + d) * (q / 2).toNat) y2 = stpB (8 * n.toNat) x) → Fr 38 a [(0, .int .u32 ((y2).toNat : Int)), (1, .int .i64 q), (5, .pointer (some ⟨b, 0, none⟩))] → Hp (fun _ => False) w0 w [(902, .rd_ (.int .u8) (some ⟨0, 0, none⟩) tabI 32 (fun k => k < w0.heap.size)), (8, .blk b (.cells (colN (stpB d) 32) 38 (0, 0)))] → khK17 a w := by
                intro a w y2 hj31_0 hF hH
                refine hK17 a w ?_
                refine wp_region_lit ?_
                refine l_at hF rfl rfl rfl (x_move (hF.tmp 5 rfl)) ?_; clear hF; intro a hF
                refine wpList_plain rfl fun K hK => ?_
                refine w_call hF (x_enter Tryd.func15 (by kernel_rfl) rfl (by simp only [List.map_toArray, List.map_cons, List.map_nil, hF.tmp 35 rfl] <;> rfl)) (twice_calls _ (lin_stp _) (rd_of_blk (hH.at 8 rfl) (colN_all _) (by rw [colI_length]; decide)) (hH.rd 902 rfl)) rfl rfl ?_
                rintro _ w ⟨b36, rfl, hm_, hs_, hb_⟩; refine ⟨_, rfl, ?_⟩; clear hF; intro a hF; have hH := hH.fresh 8 hm_ hb_ hs_
                refine hK _ _ ?_; clear hK K
                refine l_at hF rfl rfl rfl (x_assign (hF.tmp 36 rfl)) ?_; clear hF; intro a hF
                refine wpList_nil ?_
                refine hK16 _ _ ?_
                refine wp_region_lit ?_
                refine l_at hF rfl rfl rfl (x_move (hF.tmp 1 rfl)) ?_; clear hF; intro a hF
                refine l_at hF rfl rfl rfl (x_shr (hF.tmp 27 rfl) rfl (by omega) (shr1 q)) ?_; clear hF; intro a hF
                refine l_at hF rfl rfl rfl (x_assign (hF.tmp 28 rfl)) ?_; clear hF; intro a hF
                refine wpList_nil ?_
                have hHs : Hp (fun _ => False) w0 w [(902, .rd_ (.int .u8) (some ⟨0, 0, none⟩) tabI 32 (fun k => k < w0.heap.size)), (8, .blk b36 (.cells (colN (fun c => stpB d (stpB d c)) 32) 38 (0, 0)))] := hH.sub _ (sub_cons (sub_cons (sub_nil _) 8 rfl) 902 rfl)
                rw [stp_two] at hHs
                exact ⟨_, by omega, ⟨d + d, q / 2, y2, b36, rfl, hj31_0, (((hF.bare.add hF 5 rfl).add hF 1 rfl).add hF 0 rfl), hHs⟩⟩
              refine wp_cond_split (hF.tmp 31 rfl) (fun hc31 => ?_) (fun hc31 => ?_)
              · try simp only [Bool.or_eq_true, Bool.and_eq_true, Bool.or_eq_false_iff, Bool.and_eq_false_iff, Bool.not_eq_true', Bool.not_eq_false', decide_eq_true_eq, decide_eq_false_iff_not, Bool.not_true, Bool.not_false] at hc31
                have hp31 := round_odd (by omega) hc31 hq4_0
                refine wp_region_lit ?_
                refine l_at hF rfl rfl rfl (x_move (hF.tmp 5 rfl)) ?_; clear hF; intro a hF
                refine l_at hF rfl rfl rfl (x_move (hF.tmp 0 rfl)) ?_; clear hF; intro a hF
                refine wpList_plain rfl fun K hK => ?_
                refine w_call hF (x_enter Tryd.func16 (by kernel_rfl) rfl (by simp only [List.map_toArray, List.map_cons, List.map_nil, hF.tmp 32 rfl, hF.tmp 33 rfl] <;> rfl)) (of_calls _ y (lin_stp d) (rd_of_blk (hH.at 8 rfl) (colN_all _) (by rw [colI_length]; decide)) (hH.rd 902 rfl)) rfl rfl ?_
                rintro _ w ⟨rfl, hm_⟩; refine ⟨_, rfl, ?_⟩; clear hF; intro a hF; have hH := hH.same hm_
                refine hK _ _ ?_; clear hK K
                refine l_at hF rfl rfl rfl (x_assign (hF.tmp 34 rfl)) ?_; clear hF; intro a hF
                refine wpList_nil ?_
                exact hJ31 _ _ _ hp31 (((hF.bare.add hF 5 rfl).add hF 1 rfl).add hF 0 rfl) (hH.sub _ (sub_cons (sub_cons (sub_nil _) 8 rfl) 902 rfl))
              · try simp only [Bool.or_eq_true, Bool.and_eq_true, Bool.or_eq_false_iff, Bool.and_eq_false_iff, Bool.not_eq_true', Bool.not_eq_false', decide_eq_true_eq, decide_eq_false_iff_not, Bool.not_true, Bool.not_false] at hc31
                have hp31 := round_even (by omega) hc31 hq4_0
                refine wp_skip ?_
                exact hJ31 _ _ _ hp31 (((hF.bare.add hF 5 rfl).add hF 1 rfl).add hF 0 rfl) (hH.sub _ (sub_cons (sub_cons (sub_nil _) 8 rfl) 902 rfl))
            · try simp only [Bool.or_eq_true, Bool.and_eq_true, Bool.or_eq_false_iff, Bool.and_eq_false_iff, Bool.not_eq_true', Bool.not_eq_false', decide_eq_true_eq, decide_eq_false_iff_not, Bool.not_true, Bool.not_false] at hc26
              have hq0 : q.toNat = 0 := by omega
              rw [hq0] at hq4_0
              have hyx : y = stpB (8 * n.toNat) x := hq4_0
              subst hyx
              refine wp_exit ?_
              refine hK13 _ _ ?_
              refine wp_seq_k fun khK19 hK19 => ?_
              refine wp_region_lit ?_
              refine l_at hF rfl rfl rfl (x_move (hF.tmp 0 rfl)) ?_; clear hF; intro a hF
              refine l_at hF rfl rfl rfl (x_assign (hF.tmp 37 rfl)) ?_; clear hF; intro a hF
              refine wpList_nil ?_
              refine hK19 _ _ ?_
              refine wp_ret ?_
              try simp only [Exit.then, Exit.inBlock]
              exact fin_ret hF (res1 hF rfl rfl) ⟨rfl, hH.mods⟩

set_option maxHeartbeats 800000 in
theorem noughts_calls (w0 : World) (s : B32) (n : Int) {okT : Nat → Prop} (hT : Rd (.int .u8) w0 okT (some ⟨0, 0, none⟩) tabI 32) : Calls Tryd.prog 11 #[.int .u32 ((s).toNat : Int), .int .i64 n] w0 fun e w' => e = .returned (.int .u32 ((noughtsB s n.toNat).toNat : Int)) ∧ Mods (fun _ => False) w0 w' := by
  refine calls_of_wp Tryd.func11 rfl ?_
  have hF := Fr.enter #[.int .u32 ((s).toNat : Int), .int .i64 n] 10 (slotsOf [.int .u32 ((s).toNat : Int), .int .i64 n] 0) (Nat.le_of_ble_eq_true rfl) (fun i v h => by have h2 := (get_slotsOf _ 0 i v h).2; simpa only [List.getElem?_toArray, Nat.sub_zero] using h2)
  have hH := Hp.nil (fun _ => False) w0
  rw [Tryd.ntmps11]
  revert hF; generalize (⟨(#[.int .u32 ((s).toNat : Int), .int .i64 n] : Array Value) ++ Array.replicate (10 - (#[.int .u32 ((s).toNat : Int), .int .i64 n] : Array Value).size) undef, []⟩ : Act) = a; intro hF
  have hH := hH.arg 902 hT.all (fun _ h => ⟨h, fun h => h⟩)
  refine wp_seq_k fun khK1 hK1 => ?_
  refine wp_region_lit ?_
  refine l_at hF rfl rfl rfl (x_assign rfl) ?_; clear hF; intro a hF
  refine wpList_nil ?_
  refine hK1 _ _ ?_
  refine wp_seq_k fun khK2 hK2 => ?_
  refine wp_region_lit ?_
  refine l_at hF rfl rfl rfl (x_move (hF.tmp 0 rfl)) ?_; clear hF; intro a hF
  refine l_at hF rfl rfl rfl (x_cpl (hF.tmp 5 rfl) (cpl_B s)) ?_; clear hF; intro a hF
  refine l_at hF rfl rfl rfl (x_move (hF.tmp 1 rfl)) ?_; clear hF; intro a hF
  refine wpList_plain rfl fun K hK => ?_
  refine w_call hF (x_enter Tryd.func14 (by kernel_rfl) rfl (by simp only [List.map_toArray, List.map_cons, List.map_nil, hF.tmp 6 rfl, hF.tmp 7 rfl] <;> rfl)) (shift_calls _ (~~~ s) (n) (hH.rd 902 rfl)) rfl rfl ?_
  rintro _ w ⟨rfl, hm_⟩; refine ⟨_, rfl, ?_⟩; clear hF; intro a hF; have hH := hH.same hm_
  refine hK _ _ ?_; clear hK K
  refine l_at hF rfl rfl rfl (x_cpl (hF.tmp 8 rfl) (cpl_B _)) ?_; clear hF; intro a hF
  refine l_at hF rfl rfl rfl (x_assign (hF.tmp 9 rfl)) ?_; clear hF; intro a hF
  refine wpList_nil ?_
  refine hK2 _ _ ?_
  refine wp_ret ?_
  try simp only [Exit.then, Exit.inBlock]
  exact fin_ret hF (res1 hF rfl rfl) ⟨rfl, hH.mods⟩

set_option maxHeartbeats 800000 in
theorem join_calls (w0 : World) (p q : B32) (n : Int) {okT : Nat → Prop} (hT : Rd (.int .u8) w0 okT (some ⟨0, 0, none⟩) tabI 32) : Calls Tryd.prog 12 #[.int .u32 ((p).toNat : Int), .int .u32 ((q).toNat : Int), .int .i64 n] w0 fun e w' => e = .returned (.int .u32 ((joinB p q n.toNat).toNat : Int)) ∧ Mods (fun _ => False) w0 w' := by
  refine calls_of_wp Tryd.func12 rfl ?_
  have hF := Fr.enter #[.int .u32 ((p).toNat : Int), .int .u32 ((q).toNat : Int), .int .i64 n] 12 (slotsOf [.int .u32 ((p).toNat : Int), .int .u32 ((q).toNat : Int), .int .i64 n] 0) (Nat.le_of_ble_eq_true rfl) (fun i v h => by have h2 := (get_slotsOf _ 0 i v h).2; simpa only [List.getElem?_toArray, Nat.sub_zero] using h2)
  have hH := Hp.nil (fun _ => False) w0
  rw [Tryd.ntmps12]
  revert hF; generalize (⟨(#[.int .u32 ((p).toNat : Int), .int .u32 ((q).toNat : Int), .int .i64 n] : Array Value) ++ Array.replicate (12 - (#[.int .u32 ((p).toNat : Int), .int .u32 ((q).toNat : Int), .int .i64 n] : Array Value).size) undef, []⟩ : Act) = a; intro hF
  have hH := hH.arg 902 hT.all (fun _ h => ⟨h, fun h => h⟩)
  refine wp_seq_k fun khK1 hK1 => ?_
  refine wp_region_lit ?_
  refine l_at hF rfl rfl rfl (x_assign rfl) ?_; clear hF; intro a hF
  refine wpList_nil ?_
  refine hK1 _ _ ?_
  refine wp_seq_k fun khK2 hK2 => ?_
  refine wp_region_lit ?_
  refine l_at hF rfl rfl rfl (x_move (hF.tmp 0 rfl)) ?_; clear hF; intro a hF
  refine l_at hF rfl rfl rfl (x_move (hF.tmp 2 rfl)) ?_; clear hF; intro a hF
  refine wpList_plain rfl fun K hK => ?_
  refine w_call hF (x_enter Tryd.func14 (by kernel_rfl) rfl (by simp only [List.map_toArray, List.map_cons, List.map_nil, hF.tmp 7 rfl, hF.tmp 8 rfl] <;> rfl)) (shift_calls _ (p) (n) (hH.rd 902 rfl)) rfl rfl ?_
  rintro _ w ⟨rfl, hm_⟩; refine ⟨_, rfl, ?_⟩; clear hF; intro a hF; have hH := hH.same hm_
  refine hK _ _ ?_; clear hK K
  refine l_at hF rfl rfl rfl (x_move (hF.tmp 1 rfl)) ?_; clear hF; intro a hF
  refine l_at hF rfl rfl rfl (x_bits (by simp) (hF.tmp 9 rfl) (hF.tmp 10 rfl) (bxor _ _)) ?_; clear hF; intro a hF
  refine l_at hF rfl rfl rfl (x_assign (hF.tmp 11 rfl)) ?_; clear hF; intro a hF
  refine wpList_nil ?_
  refine hK2 _ _ ?_
  refine wp_ret ?_
  try simp only [Exit.then, Exit.inBlock]
  exact fin_ret hF (res1 hF rfl rfl) ⟨rfl, hH.mods⟩

set_option maxHeartbeats 800000 in
theorem refMore_calls (w0 : World) (s : B32) {ok : Nat → Prop} {A : Option Addr} {xs : List Int} {c : Nat} (hr : Rd (.int .u8) w0 ok A xs c) : Calls Tryd.prog 7 #[.int .u32 ((s).toNat : Int), .slice A xs.length c] w0 fun e w' => e = .returned (.int .u32 ((moreB s (xs.map bv)).toNat : Int)) ∧ Mods (fun _ => False) w0 w' := by
  refine calls_of_wp Tryd.func7 rfl ?_
  have hF := Fr.enter #[.int .u32 ((s).toNat : Int), .slice A xs.length c] 38 (slotsOf [.int .u32 ((s).toNat : Int), .slice A xs.length c] 0) (Nat.le_of_ble_eq_true rfl) (fun i v h => by have h2 := (get_slotsOf _ 0 i v h).2; simpa only [List.getElem?_toArray, Nat.sub_zero] using h2)
  have hH := Hp.nil (fun _ => False) w0
  rw [Tryd.ntmps7]
  revert hF; generalize (⟨(#[.int .u32 ((s).toNat : Int), .slice A xs.length c] : Array Value) ++ Array.replicate (38 - (#[.int .u32 ((s).toNat : Int), .slice A xs.length c] : Array Value).size) undef, []⟩ : Act) = a; intro hF
  have hH := hH.arg 901 hr.all (fun _ h => ⟨h, fun h => h⟩)
  have hle := hr.le; unfold maxLen at hle
  refine wp_seq_k fun khK1 hK1 => ?_
  refine wp_region_lit ?_
  refine l_at hF rfl rfl rfl (x_assign rfl) ?_; clear hF; intro a hF
  refine wpList_nil ?_
  refine hK1 _ _ ?_
  refine wp_seq_k fun khK2 hK2 => ?_
  refine wp_region_lit ?_
  refine l_at hF rfl rfl rfl (x_move (hF.tmp 0 rfl)) ?_; clear hF; intro a hF
  refine l_at hF rfl rfl rfl (x_bits (by simp) (hF.tmp 9 rfl) rfl (xorF s)) ?_; clear hF; intro a hF
  refine l_at hF rfl rfl rfl (x_assign (hF.tmp 10 rfl)) ?_; clear hF; intro a hF
  refine wpList_nil ?_
  refine hK2 _ _ ?_
  refine wp_seq_k fun khK3 hK3 => ?_
  refine wp_seq_k fun khK4 hK4 => ?_
  refine wp_region_lit ?_
  refine l_at hF rfl rfl rfl (x_assign rfl) ?_; clear hF; intro a hF
  refine wpList_nil ?_
  refine hK4 _ _ ?_
  refine wp_block ?_
  refine wp_loop_ghost (fun n_ a w => ∃ i : Nat, n_ = xs.length - i ∧ (i ≤ xs.length) ∧ Fr 38 a [(1, .slice A xs.length c), (5, .int .u32 ((((xs.take i).map bv).foldl byteB (~~~ s)).toNat : Int)), (6, .int .i64 (i : Int))] ∧ Hp (fun _ => False) w0 w [(901, .rd_ (.int .u8) A xs c (fun k => k < w0.heap.size))]) (xs.length) ?_ ?_
  · exact ⟨0, rfl, by omega, (((hF.bare.add hF 6 rfl).add hF 5 rfl).add hF 1 rfl), hH.sub _ (sub_cons (sub_nil _) 901 rfl)⟩
  · rintro _ a w ⟨i, rfl, hq0_0, hF, hH⟩
    refine wp_seq_k fun khK5 hK5 => ?_
    refine wp_seq_k fun khK6 hK6 => ?_
    refine wp_region_lit ?_
    refine l_at hF rfl rfl rfl (x_move (hF.tmp 6 rfl)) ?_; clear hF; intro a hF
    refine l_at hF rfl rfl rfl (x_move (hF.tmp 1 rfl)) ?_; clear hF; intro a hF
    refine l_at hF rfl rfl rfl (x_len_slice Tryd.underlying22 (hF.tmp 12 rfl)) ?_; clear hF; intro a hF
    refine l_at hF rfl rfl rfl (x_lss (hF.tmp 11 rfl) (hF.tmp 13 rfl)) ?_; clear hF; intro a hF
    refine wpList_nil ?_
    refine hK6 _ _ ?_
    refine wp_cond_split (hF.tmp 14 rfl) (fun hc14 => ?_) (fun hc14 => ?_)
    · try simp only [Bool.or_eq_true, Bool.and_eq_true, Bool.or_eq_false_iff, Bool.and_eq_false_iff, Bool.not_eq_true', Bool.not_eq_false', decide_eq_true_eq, decide_eq_false_iff_not, Bool.not_true, Bool.not_false] at hc14
      refine wp_skip ?_
      refine hK5 _ _ ?_
      refine wp_seq_k fun khK7 hK7 => ?_
      refine wp_block ?_
      refine wp_seq_k fun khK8 hK8 => ?_
      refine wp_region_lit ?_
      refine l_at hF rfl rfl rfl (x_move (hF.tmp 5 rfl)) ?_; clear hF; intro a hF
      refine l_at hF rfl rfl rfl (x_move (hF.tmp 1 rfl)) ?_; clear hF; intro a hF
      refine l_at hF rfl rfl rfl (x_move (hF.tmp 6 rfl)) ?_; clear hF; intro a hF
      refine l_at hF rfl rfl rfl (x_iaddr_A Tryd.underlying22 ty5 ((hH.rd 901 rfl)) (hF.tmp 18 rfl) (hF.tmp 19 rfl) (by omega) (by omega) _) ?_; clear hF; intro a hF
      refine l_at hF rfl rfl rfl (x_load1 ty5 (hF.tmp 20 rfl) (((hH.rd 901 rfl)).cellA (gi_some (i := (i : Int)) (by omega) (by omega)))) ?_; clear hF; intro a hF
      refine l_at hF rfl rfl rfl (x_conv Tryd.underlying23 ⟨_, Tryd.underlying5⟩ (hF.tmp 21 rfl) (wrap_bv _)) ?_; clear hF; intro a hF
      refine l_at hF rfl rfl rfl (x_bits (by simp) (hF.tmp 17 rfl) (hF.tmp 22 rfl) (bxor _ _)) ?_; clear hF; intro a hF
      refine l_at hF rfl rfl rfl (x_assign (hF.tmp 23 rfl)) ?_; clear hF; intro a hF
      refine wpList_nil ?_
      refine hK8 _ _ ?_
      refine wp_seq_k fun khK9 hK9 => ?_
      refine wp_region_lit ?_
      refine l_at hF rfl rfl rfl (x_assign rfl) ?_; clear hF; intro a hF
      refine wpList_nil ?_
      refine hK9 _ _ ?_
      refine wp_block ?_
      refine wp_loop_ghost (fun n_ a w => ∃ j : Nat, n_ = 8 - j ∧ (j ≤ 8) ∧ Fr 38 a [(1, .slice A xs.length c), (5, .int .u32 ((stpB j ((((xs.take i).map bv).foldl byteB (~~~ s)) ^^^ bv (gi xs i))).toNat : Int)), (6, .int .i64 (i : Int)), (7, .int .i64 (j : Int))] ∧ Hp (fun _ => False) w0 w [(901, .rd_ (.int .u8) A xs c (fun k => k < w0.heap.size))]) (8) ?_ ?_
      · exact ⟨0, rfl, by omega, ((((hF.bare.add hF 7 rfl).add hF 6 rfl).add hF 5 rfl).add hF 1 rfl), hH.sub _ (sub_cons (sub_nil _) 901 rfl)⟩
      · rintro _ a w ⟨j, rfl, hq2_0, hF, hH⟩
        refine wp_seq_k fun khK10 hK10 => ?_
        refine wp_seq_k fun khK11 hK11 => ?_
        refine wp_region_lit ?_
        refine l_at hF rfl rfl rfl (x_move (hF.tmp 7 rfl)) ?_; clear hF; intro a hF
        refine l_at hF rfl rfl rfl (x_lss (hF.tmp 24 rfl) rfl) ?_; clear hF; intro a hF
        refine wpList_nil ?_
        refine hK11 _ _ ?_
        refine wp_cond_split (hF.tmp 25 rfl) (fun hc25 => ?_) (fun hc25 => ?_)
        · try simp only [Bool.or_eq_true, Bool.and_eq_true, Bool.or_eq_false_iff, Bool.and_eq_false_iff, Bool.not_eq_true', Bool.not_eq_false', decide_eq_true_eq, decide_eq_false_iff_not, Bool.not_true, Bool.not_false] at hc25
          refine wp_skip ?_
          refine hK10 _ _ ?_
          refine wp_seq_k fun khK12 hK12 => ?_
          refine wp_block ?_
          refine wp_seq_k fun khK13 hK13 => ?_
          refine wp_region_lit ?_
          refine l_at hF rfl rfl rfl (x_move (hF.tmp 5 rfl)) ?_; clear hF; intro a hF
          refine l_at hF rfl rfl rfl (x_rem (hF.tmp 28 rfl) rfl (by decide) (low_rem _)) ?_; clear hF; intro a hF
          refine l_at hF rfl rfl rfl (x_assign (hF.tmp 29 rfl)) ?_; clear hF; intro a hF
          refine wpList_nil ?_
          refine hK13 _ _ ?_
          refine wp_seq_k fun khK14 hK14 => ?_
          refine wp_region_lit ?_
          refine l_at hF rfl rfl rfl (x_move (hF.tmp 5 rfl)) ?_; clear hF; intro a hF
          refine l_at hF rfl rfl rfl (x_quo (hF.tmp 30 rfl) rfl (by decide) (quo2 _)) ?_; clear hF; intro a hF
          refine l_at hF rfl rfl rfl (x_assign (hF.tmp 31 rfl)) ?_; clear hF; intro a hF
          refine wpList_nil ?_
          refine hK14 _ _ ?_
          refine wp_seq_k fun khK15 hK15 => ?_
          refine wp_region_lit ?_
          refine l_at hF rfl rfl rfl (x_move (hF.tmp 8 rfl)) ?_; clear hF; intro a hF
          refine l_at hF rfl rfl rfl (x_eql (hF.tmp 32 rfl) rfl) ?_; clear hF; intro a hF
          refine wpList_nil ?_
          refine hK15 _ _ ?_
          refine wp_norm_k fun khK16 hK16 => ?_
          have hJ33 : ∀ a w, Fr 38 a [(1, .slice A xs.length c), (5, .int .u32 ((stpB (j + 1) ((((xs.take i).map bv).foldl byteB (~~~ s)) ^^^ bv (gi xs i))).toNat : Int)), (6, .int .i64 (i : Int)), (7, .int .i64 (j : Int))] → Hp (fun _ => False) w0 w [(901, .rd_ (.int .u8) A xs c (fun k => k < w0.heap.size))] → khK16 a w := by
            intro a w  hF hH
            refine hK16 a w ?_
            refine hK12 _ _ ?_
            refine wp_region_lit ?_
            refine l_at hF rfl rfl rfl (x_move (hF.tmp 7 rfl)) ?_; clear hF; intro a hF
            refine l_at hF rfl rfl rfl (x_add (hF.tmp 26 rfl) rfl (w64 (by omega) (by omega))) ?_; clear hF; intro a hF
            refine l_at hF rfl rfl rfl (x_assign (hF.tmp 27 rfl)) ?_; clear hF; intro a hF
            refine wpList_nil ?_
            exact ⟨_, by omega, ⟨j + 1, rfl, by omega, ((((hF.bare.add hF 7 rfl).add hF 6 rfl).add hF 5 rfl).add hF 1 rfl), hH.sub _ (sub_cons (sub_nil _) 901 rfl)⟩⟩
          refine wp_cond_split (hF.tmp 33 rfl) (fun hc33 => ?_) (fun hc33 => ?_)
          · try simp only [Bool.or_eq_true, Bool.and_eq_true, Bool.or_eq_false_iff, Bool.and_eq_false_iff, Bool.not_eq_true', Bool.not_eq_false', decide_eq_true_eq, decide_eq_false_iff_not, Bool.not_true, Bool.not_false] at hc33
            refine wp_region_lit ?_
            refine l_at hF rfl rfl rfl (x_move (hF.tmp 5 rfl)) ?_; clear hF; intro a hF
            refine l_at hF rfl rfl rfl (x_bits (by simp) (hF.tmp 34 rfl) rfl (ref_odd _ hc33)) ?_; clear hF; intro a hF
            refine l_at hF rfl rfl rfl (x_assign (hF.tmp 35 rfl)) ?_; clear hF; intro a hF
            refine wpList_nil ?_
            exact hJ33 _ _  ((((hF.bare.add hF 7 rfl).add hF 6 rfl).add hF 5 rfl).add hF 1 rfl) (hH.sub _ (sub_cons (sub_nil _) 901 rfl))
          · try simp only [Bool.or_eq_true, Bool.and_eq_true, Bool.or_eq_false_iff, Bool.and_eq_false_iff, Bool.not_eq_true', Bool.not_eq_false', decide_eq_true_eq, decide_eq_false_iff_not, Bool.not_true, Bool.not_false] at hc33
            rw [ref_even _ hc33] at hF
            refine wp_skip ?_
            exact hJ33 _ _  ((((hF.bare.add hF 7 rfl).add hF 6 rfl).add hF 5 rfl).add hF 1 rfl) (hH.sub _ (sub_cons (sub_nil _) 901 rfl))
        · try simp only [Bool.or_eq_true, Bool.and_eq_true, Bool.or_eq_false_iff, Bool.and_eq_false_iff, Bool.not_eq_true', Bool.not_eq_false', decide_eq_true_eq, decide_eq_false_iff_not, Bool.not_true, Bool.not_false] at hc25
          obtain rfl : j = 8 := by omega
          refine wp_exit ?_
          refine hK7 _ _ ?_
          refine wp_region_lit ?_
          refine l_at hF rfl rfl rfl (x_move (hF.tmp 6 rfl)) ?_; clear hF; intro a hF
          refine l_at hF rfl rfl rfl (x_add (hF.tmp 15 rfl) rfl (w64 (by omega) (by omega))) ?_; clear hF; intro a hF
          refine l_at hF rfl rfl rfl (x_assign (hF.tmp 16 rfl)) ?_; clear hF; intro a hF
          refine wpList_nil ?_
          have hFs : Fr 38 a [(1, .slice A xs.length c), (5, .int .u32 ((stpB 8 ((((xs.take i).map bv).foldl byteB (~~~ s)) ^^^ bv (gi xs i))).toNat : Int)), (6, .int .i64 ((i + 1 : Nat) : Int))] := (((hF.bare.add hF 6 rfl).add hF 5 rfl).add hF 1 rfl)
          rw [foldB_step hc14] at hFs
          exact ⟨_, by omega, ⟨i + 1, rfl, by omega, hFs, hH.sub _ (sub_cons (sub_nil _) 901 rfl)⟩⟩
    · try simp only [Bool.or_eq_true, Bool.and_eq_true, Bool.or_eq_false_iff, Bool.and_eq_false_iff, Bool.not_eq_true', Bool.not_eq_false', decide_eq_true_eq, decide_eq_false_iff_not, Bool.not_true, Bool.not_false] at hc14
      obtain rfl : i = xs.length := by omega
      rw [List.take_length] at hF
      refine wp_exit ?_
      refine hK3 _ _ ?_
      refine wp_seq_k fun khK17 hK17 => ?_
      refine wp_region_lit ?_
      refine l_at hF rfl rfl rfl (x_move (hF.tmp 5 rfl)) ?_; clear hF; intro a hF
      refine l_at hF rfl rfl rfl (x_bits (by simp) (hF.tmp 36 rfl) rfl (xorF _)) ?_; clear hF; intro a hF
      refine l_at hF rfl rfl rfl (x_assign (hF.tmp 37 rfl)) ?_; clear hF; intro a hF
      refine wpList_nil ?_
      refine hK17 _ _ ?_
      refine wp_ret ?_
      try simp only [Exit.then, Exit.inBlock]
      exact fin_ret hF (res1 hF rfl rfl) ⟨rfl, hH.mods⟩

set_option maxHeartbeats 800000 in
theorem refSum_calls (w0 : World) {ok : Nat → Prop} {A : Option Addr} {xs : List Int} {c : Nat} (hr : Rd (.int .u8) w0 ok A xs c) : Calls Tryd.prog 9 #[.slice A xs.length c] w0 fun e w' => e = .returned (.int .u32 ((moreB 0#32 (xs.map bv)).toNat : Int)) ∧ Mods (fun _ => False) w0 w' := by
  refine calls_of_wp Tryd.func9 rfl ?_
  have hF := Fr.enter #[.slice A xs.length c] 5 (slotsOf [.slice A xs.length c] 0) (Nat.le_of_ble_eq_true rfl) (fun i v h => by have h2 := (get_slotsOf _ 0 i v h).2; simpa only [List.getElem?_toArray, Nat.sub_zero] using h2)
  have hH := Hp.nil (fun _ => False) w0
  rw [Tryd.ntmps9]
  revert hF; generalize (⟨(#[.slice A xs.length c] : Array Value) ++ Array.replicate (5 - (#[.slice A xs.length c] : Array Value).size) undef, []⟩ : Act) = a; intro hF
  have hH := hH.arg 901 hr.all (fun _ h => ⟨h, fun h => h⟩)
  refine wp_seq_k fun khK1 hK1 => ?_
  refine wp_region_lit ?_
  refine l_at hF rfl rfl rfl (x_assign rfl) ?_; clear hF; intro a hF
  refine wpList_nil ?_
  refine hK1 _ _ ?_
  refine wp_seq_k fun khK2 hK2 => ?_
  refine wp_region_lit ?_
  refine l_at hF rfl rfl rfl (x_move (hF.tmp 0 rfl)) ?_; clear hF; intro a hF
  refine wpList_plain rfl fun K hK => ?_
  refine w_call hF (x_enter Tryd.func7 (by kernel_rfl) rfl (by simp only [List.map_toArray, List.map_cons, List.map_nil, hF.tmp 3 rfl] <;> rfl)) (refMore_calls _ (0#32) (hH.rd 901 rfl)) rfl rfl ?_
  rintro _ w ⟨rfl, hm_⟩; refine ⟨_, rfl, ?_⟩; clear hF; intro a hF; have hH := hH.same hm_
  refine hK _ _ ?_; clear hK K
  refine l_at hF rfl rfl rfl (x_assign (hF.tmp 4 rfl)) ?_; clear hF; intro a hF
  refine wpList_nil ?_
  refine hK2 _ _ ?_
  refine wp_ret ?_
  try simp only [Exit.then, Exit.inBlock]
  exact fin_ret hF (res1 hF rfl rfl) ⟨rfl, hH.mods⟩

theorem moreB_calls (w0 : World) (s : B32) {ok : Nat → Prop} {A : Option Addr} {xs : List Int} {c : Nat} (hr : Rd (.int .u8) w0 ok A xs c) : Calls Tryd.prog 10 #[.int .u32 ((s).toNat : Int), .slice A xs.length c] w0 fun e w' => e = .returned (.int .u32 ((moreB s (xs.map bv)).toNat : Int)) ∧ Mods (fun _ => False) w0 w' := by
  have h := more_calls w0 (s.toNat : Int) hr
  rw [more_B] at h
  exact h
theorem sumB_calls (w0 : World) {ok : Nat → Prop} {A : Option Addr} {xs : List Int} {c : Nat} (hr : Rd (.int .u8) w0 ok A xs c) : Calls Tryd.prog 8 #[.slice A xs.length c] w0 fun e w' => e = .returned (.int .u32 ((moreB 0#32 (xs.map bv)).toNat : Int)) ∧ Mods (fun _ => False) w0 w' := by
  have h := sum_calls w0 hr
  rw [show (0 : Int) = ((0#32 : B32).toNat : Int) by decide, more_B] at h
  exact h
set_option maxHeartbeats 800000 in
theorem sums_calls (w0 : World) (s : B32) (n : Int) {ok : Nat → Prop} {A : Option Addr} {xs : List Int} {c : Nat} (hr : Rd (.int .u8) w0 ok A xs c) {okT : Nat → Prop} (hT : Rd (.int .u8) w0 okT (some ⟨0, 0, none⟩) tabI 32) : Calls Tryd.prog 3 #[.slice A xs.length c, .int .u32 ((s).toNat : Int), .int .i64 n] w0 fun e w' => e = .returned (.bool true) ∧ Mods (fun _ => False) w0 w' := by
  refine calls_of_wp Tryd.func3 rfl ?_
  have hF := Fr.enter #[.slice A xs.length c, .int .u32 ((s).toNat : Int), .int .i64 n] 61 (slotsOf [.slice A xs.length c, .int .u32 ((s).toNat : Int), .int .i64 n] 0) (Nat.le_of_ble_eq_true rfl) (fun i v h => by have h2 := (get_slotsOf _ 0 i v h).2; simpa only [List.getElem?_toArray, Nat.sub_zero] using h2)
  have hH := Hp.nil (fun _ => False) w0
  rw [Tryd.ntmps3]
  revert hF; generalize (⟨(#[.slice A xs.length c, .int .u32 ((s).toNat : Int), .int .i64 n] : Array Value) ++ Array.replicate (61 - (#[.slice A xs.length c, .int .u32 ((s).toNat : Int), .int .i64 n] : Array Value).size) undef, []⟩ : Act) = a; intro hF
  have hH := hH.arg 901 hr.all (fun _ h => ⟨h, fun h => h⟩)
  have hH := hH.arg 902 hT.all (fun _ h => ⟨h, fun h => h⟩)
  have hle := hr.le; unfold maxLen at hle
  refine wp_seq_k fun khK1 hK1 => ?_
  refine wp_region_lit ?_
  refine l_at hF rfl rfl rfl (x_assign rfl) ?_; clear hF; intro a hF
  refine wpList_nil ?_
  refine hK1 _ _ ?_
  refine wp_seq_k fun khK2 hK2 => ?_
  refine wp_seq_k fun khK3 hK3 => ?_
  refine wp_region_lit ?_
  refine l_at hF rfl rfl rfl (x_move (hF.tmp 0 rfl)) ?_; clear hF; intro a hF
  refine l_at hF rfl rfl rfl (x_len_slice Tryd.underlying22 (hF.tmp 9 rfl)) ?_; clear hF; intro a hF
  refine l_at hF rfl rfl rfl (x_gtr (hF.tmp 10 rfl) rfl) ?_; clear hF; intro a hF
  refine l_at hF rfl rfl rfl (x_move (hF.tmp 11 rfl)) ?_; clear hF; intro a hF
  refine split_bool hF 12 rfl (fun hb12 => ?_) (fun hb12 => ?_)
  · have hc12 := hb12; try simp only [Bool.or_eq_true, Bool.and_eq_true, Bool.or_eq_false_iff, Bool.and_eq_false_iff, Bool.not_eq_true', Bool.not_eq_false', decide_eq_true_eq, decide_eq_false_iff_not, Bool.not_true, Bool.not_false] at hc12
    refine l_offg hF ((wanted_of hF rfl rfl rfl rfl).trans (by rw [hb12]; rfl)) rfl rfl ?_; clear hF; intro a hF
    refine l_offg hF ((wanted_of hF rfl rfl rfl rfl).trans (by rw [hb12]; rfl)) rfl rfl ?_; clear hF; intro a hF
    refine l_at hF rfl rfl rfl (x_pickT (hF.tmp 12 rfl) hb12 rfl) ?_; clear hF; intro a hF
    refine wpList_nil ?_
    refine hK3 _ _ ?_
    refine wp_cond_true (hF.tmp 15 rfl) ?_
    refine wp_seq_k fun khK4 hK4 => ?_
    refine wp_region_lit ?_
    refine wpList_plain rfl fun K hK => ?_
    refine w_call hF (x_enter Tryd.func6 (by kernel_rfl) rfl (by simp only [List.map_toArray, List.map_cons, List.map_nil] <;> rfl)) (alive_calls _) rfl rfl ?_
    rintro _ w ⟨rfl, hm_⟩; refine ⟨_, rfl, ?_⟩; clear hF; intro a hF; have hH := hH.same hm_
    refine hK _ _ ?_; clear hK K
    refine l_at hF rfl rfl rfl (x_assign (hF.tmp 16 rfl)) ?_; clear hF; intro a hF
    refine wpList_nil ?_
    refine hK4 _ _ ?_
    refine wp_ret ?_
    try simp only [Exit.then, Exit.inBlock]
    exact fin_ret hF (res1 hF rfl rfl) ⟨rfl, hH.mods⟩
  · have hc12 := hb12; try simp only [Bool.or_eq_true, Bool.and_eq_true, Bool.or_eq_false_iff, Bool.and_eq_false_iff, Bool.not_eq_true', Bool.not_eq_false', decide_eq_true_eq, decide_eq_false_iff_not, Bool.not_true, Bool.not_false] at hc12
    refine l_atg hF ((wanted_of hF rfl rfl rfl rfl).trans (by rw [hb12]; rfl)) rfl rfl (x_move (hF.tmp 2 rfl)) ?_; clear hF; intro a hF
    refine l_atg hF ((wanted_of hF rfl rfl rfl rfl).trans (by rw [hb12]; rfl)) rfl rfl (x_gtr (hF.tmp 13 rfl) rfl) ?_; clear hF; intro a hF
    refine l_at hF rfl rfl rfl (x_pickF (hF.tmp 12 rfl) hb12 (hF.tmp 14 rfl)) ?_; clear hF; intro a hF
    refine wpList_nil ?_
    refine hK3 _ _ ?_
    refine wp_cond_split (hF.tmp 15 rfl) (fun hc15 => ?_) (fun hc15 => ?_)
    · try simp only [Bool.or_eq_true, Bool.and_eq_true, Bool.or_eq_false_iff, Bool.and_eq_false_iff, Bool.not_eq_true', Bool.not_eq_false', decide_eq_true_eq, decide_eq_false_iff_not, Bool.not_true, Bool.not_false] at hc15
      refine wp_seq_k fun khK5 hK5 => ?_
      refine wp_region_lit ?_
      refine wpList_plain rfl fun K hK => ?_
      refine w_call hF (x_enter Tryd.func6 (by kernel_rfl) rfl (by simp only [List.map_toArray, List.map_cons, List.map_nil] <;> rfl)) (alive_calls _) rfl rfl ?_
      rintro _ w ⟨rfl, hm_⟩; refine ⟨_, rfl, ?_⟩; clear hF; intro a hF; have hH := hH.same hm_
      refine hK _ _ ?_; clear hK K
      refine l_at hF rfl rfl rfl (x_assign (hF.tmp 16 rfl)) ?_; clear hF; intro a hF
      refine wpList_nil ?_
      refine hK5 _ _ ?_
      refine wp_ret ?_
      try simp only [Exit.then, Exit.inBlock]
      exact fin_ret hF (res1 hF rfl rfl) ⟨rfl, hH.mods⟩
    · try simp only [Bool.or_eq_true, Bool.and_eq_true, Bool.or_eq_false_iff, Bool.and_eq_false_iff, Bool.not_eq_true', Bool.not_eq_false', decide_eq_true_eq, decide_eq_false_iff_not, Bool.not_true, Bool.not_false] at hc15
      refine wp_skip ?_
      refine hK2 _ _ ?_
      refine wp_seq_k fun khK6 hK6 => ?_
      refine wp_region_lit ?_
      refine wpList_plain rfl fun K hK => ?_
      refine w_lit0 (.int .u8) 17 hF hH rfl Tryd.underlying22 ty5 ?_
      clear hF hH; intro a w b17 hF hH
      refine hK _ _ ?_; clear hK K
      refine l_at hF rfl rfl rfl (x_move (hF.tmp 0 rfl)) ?_; clear hF; intro a hF
      refine wpList_plain rfl fun K hK => ?_
      refine w_append 17 901 hF hH rfl Tryd.underlying22 ty5 rfl rfl rfl rfl ((hH.rd 901 rfl)) (by intro k_ hk_; exact .inr hk_) (hF.tmp 17 rfl) (hF.tmp 18 rfl) (by simp only [List.length_append, List.length_nil, List.length_cons] at *; omega) (by simp only [List.length_append, List.length_nil, List.length_cons, maxLen] at *; omega) (fun _ => False) (fun w' v' h => row_flat h _) (fun k_ hk_ => hk_.elim) ?_
      clear hF hH; intro a w v19 hF hH
      refine hK _ _ ?_; clear hK K
      refine wpList_plain rfl fun K hK => ?_
      refine w_lit 20 (enc := Value.int .u8) (h1 := fun _ => rfl) ([7] : List Int) hF hH rfl Tryd.underlying22 ty5 rfl rfl (by decide) (by decide) (by kernel_rfl) ?_
      clear hF hH; intro a w b20 hF hH
      refine hK _ _ ?_; clear hK K
      refine wpList_plain rfl fun K hK => ?_
      refine w_append 17 20 hF hH rfl Tryd.underlying22 ty5 rfl rfl rfl rfl (Row.rd (ok' := fun k_ => (fun _ => False) k_ ∨ (.slice (some ⟨b20, 0, none⟩) (([7] : List Int)).length (([7] : List Int)).length : Value).ownBlock = some k_) (hH.row 20 rfl) (fun _ hk_ _ => .inl hk_) (fun _ hk_ => .inr hk_)) (by rintro k_ (hk_ | hk_); exact .inr hk_; exact .inl hk_) (hF.tmp 19 rfl) (hF.tmp 20 rfl) (by simp only [List.length_append, List.length_nil, List.length_cons] at *; omega) (by simp only [List.length_append, List.length_nil, List.length_cons, maxLen] at *; omega) (fun _ => False) (fun w' v' h => row_flat h _) (fun k_ hk_ => hk_.elim) ?_
      clear hF hH; intro a w v21 hF hH
      refine hK _ _ ?_; clear hK K
      obtain ⟨A21, c21, rfl⟩ := (hH.row 17 rfl).form
      refine l_at hF rfl rfl rfl (x_move (hF.tmp 0 rfl)) ?_; clear hF; intro a hF
      refine l_at hF rfl rfl rfl (x_len_slice Tryd.underlying22 (hF.tmp 22 rfl)) ?_; clear hF; intro a hF
      refine l_at hF rfl rfl rfl (x_slice_h Tryd.underlying22 ty5 (hF.tmp 21 rfl) (hF.tmp 23 rfl) (by omega) (by simp only [List.length_append, List.length_nil, List.length_cons]; omega) (Row.rd (ok' := fun k_ => (fun _ => False) k_ ∨ (.slice A21 (([] ++ xs) ++ [7]).length c21 : Value).ownBlock = some k_) (hH.row 17 rfl) (fun _ hk_ _ => .inl hk_) (fun _ hk_ => .inr hk_)).1) ?_; clear hF; intro a hF
      rw [own_eq xs] at hF
      refine l_at hF rfl rfl rfl (x_assign (hF.tmp 24 rfl)) ?_; clear hF; intro a hF
      refine wpList_nil ?_
      refine hK6 _ _ ?_
      refine wp_seq_k fun khK7 hK7 => ?_
      refine wp_region_lit ?_
      refine l_at hF rfl rfl rfl (x_move (hF.tmp 1 rfl)) ?_; clear hF; intro a hF
      refine l_at hF rfl rfl rfl (x_move (hF.tmp 2 rfl)) ?_; clear hF; intro a hF
      refine l_at hF rfl rfl rfl (x_max2 (hF.tmp 26 rfl) rfl) ?_; clear hF; intro a hF
      rw [mx_toNat n] at hF
      refine wpList_plain rfl fun K hK => ?_
      refine w_make 28 (enc := Value.int .u8) (h1 := fun _ => rfl) (0 : Int) hF hH rfl Tryd.underlying22 ty5 rfl (hF.tmp 27 rfl) (hF.tmp 27 rfl) (by omega) (by unfold maxLen; omega) ?_
      clear hF hH; intro a w b28 hF hH
      refine hK _ _ ?_; clear hK K
      refine wpList_plain rfl fun K hK => ?_
      refine w_call hF (x_enter Tryd.func7 (by kernel_rfl) rfl (by simp only [List.map_toArray, List.map_cons, List.map_nil, hF.tmp 25 rfl, hF.tmp 28 rfl] <;> rfl)) (refMore_calls _ (s) (Row.rd (ok' := fun k_ => (fun _ => False) k_ ∨ (.slice (some ⟨b28, 0, none⟩) (List.replicate n.toNat 0).length n.toNat : Value).ownBlock = some k_) (hH.row 28 rfl) (fun _ hk_ _ => .inl hk_) (fun _ hk_ => .inr hk_))) rfl rfl ?_
      rintro _ w ⟨rfl, hm_⟩; refine ⟨_, rfl, ?_⟩; clear hF; intro a hF; have hH := hH.same hm_
      refine hK _ _ ?_; clear hK K
      refine l_at hF rfl rfl rfl (x_assign (hF.tmp 29 rfl)) ?_; clear hF; intro a hF
      refine wpList_nil ?_
      refine hK7 _ _ ?_
      refine wp_seq_k fun khK8 hK8 => ?_
      refine wp_region_lit ?_
      refine wpList_plain rfl fun K hK => ?_
      refine w_call hF (x_enter Tryd.func6 (by kernel_rfl) rfl (by simp only [List.map_toArray, List.map_cons, List.map_nil] <;> rfl)) (alive_calls _) rfl rfl ?_
      rintro _ w ⟨rfl, hm_⟩; refine ⟨_, rfl, ?_⟩; clear hF; intro a hF; have hH := hH.same hm_
      refine hK _ _ ?_; clear hK K
      refine l_at hF rfl rfl rfl (x_move (hF.tmp 30 rfl)) ?_; clear hF; intro a hF
      refine l_atg hF ((wanted_of hF rfl rfl rfl rfl).trans rfl) rfl rfl (x_move (hF.tmp 7 rfl)) ?_; clear hF; intro a hF
      refine wpList_on ((wanted_of hF rfl rfl rfl rfl).trans rfl) fun K hK => ?_
      refine w_call hF (x_enter Tryd.func8 (by kernel_rfl) rfl (by simp only [List.map_toArray, List.map_cons, List.map_nil, hF.tmp 32 rfl] <;> rfl)) (sumB_calls _ ((own_eq xs ▸ Rd.take (Row.rd (ok' := fun k_ => (fun _ => False) k_ ∨ (.slice A21 (([] ++ xs) ++ [7]).length c21 : Value).ownBlock = some k_) (hH.row 17 rfl) (fun _ hk_ _ => .inl hk_) (fun _ hk_ => .inr hk_)) (xs.length : Int).toNat))) rfl rfl ?_
      rintro _ w ⟨rfl, hm_⟩; refine ⟨_, rfl, ?_⟩; clear hF; intro a hF; have hH := hH.same hm_
      refine hK _ _ ?_; clear hK K
      refine l_atg hF ((wanted_of hF rfl rfl rfl rfl).trans rfl) rfl rfl (x_move (hF.tmp 0 rfl)) ?_; clear hF; intro a hF
      refine wpList_on ((wanted_of hF rfl rfl rfl rfl).trans rfl) fun K hK => ?_
      refine w_call hF (x_enter Tryd.func9 (by kernel_rfl) rfl (by simp only [List.map_toArray, List.map_cons, List.map_nil, hF.tmp 34 rfl] <;> rfl)) (refSum_calls _ ((hH.rd 901 rfl))) rfl rfl ?_
      rintro _ w ⟨rfl, hm_⟩; refine ⟨_, rfl, ?_⟩; clear hF; intro a hF; have hH := hH.same hm_
      refine hK _ _ ?_; clear hK K
      refine l_atg hF ((wanted_of hF rfl rfl rfl rfl).trans rfl) rfl rfl (x_eql (hF.tmp 33 rfl) (hF.tmp 35 rfl)) ?_; clear hF; intro a hF
      rw [decide_eq_true (rfl)] at hF
      refine l_at hF rfl rfl rfl (x_pickT (hF.tmp 31 rfl) rfl (hF.tmp 36 rfl)) ?_; clear hF; intro a hF
      refine l_at hF rfl rfl rfl (x_move (hF.tmp 37 rfl)) ?_; clear hF; intro a hF
      refine l_atg hF ((wanted_of hF rfl rfl rfl rfl).trans rfl) rfl rfl (x_move (hF.tmp 1 rfl)) ?_; clear hF; intro a hF
      refine l_atg hF ((wanted_of hF rfl rfl rfl rfl).trans rfl) rfl rfl (x_move (hF.tmp 7 rfl)) ?_; clear hF; intro a hF
      refine wpList_on ((wanted_of hF rfl rfl rfl rfl).trans rfl) fun K hK => ?_
      refine w_call hF (x_enter Tryd.func10 (by kernel_rfl) rfl (by simp only [List.map_toArray, List.map_cons, List.map_nil, hF.tmp 39 rfl, hF.tmp 40 rfl] <;> rfl)) (moreB_calls _ (s) ((own_eq xs ▸ Rd.take (Row.rd (ok' := fun k_ => (fun _ => False) k_ ∨ (.slice A21 (([] ++ xs) ++ [7]).length c21 : Value).ownBlock = some k_) (hH.row 17 rfl) (fun _ hk_ _ => .inl hk_) (fun _ hk_ => .inr hk_)) (xs.length : Int).toNat))) rfl rfl ?_
      rintro _ w ⟨rfl, hm_⟩; refine ⟨_, rfl, ?_⟩; clear hF; intro a hF; have hH := hH.same hm_
      refine hK _ _ ?_; clear hK K
      refine l_atg hF ((wanted_of hF rfl rfl rfl rfl).trans rfl) rfl rfl (x_move (hF.tmp 1 rfl)) ?_; clear hF; intro a hF
      refine l_atg hF ((wanted_of hF rfl rfl rfl rfl).trans rfl) rfl rfl (x_move (hF.tmp 0 rfl)) ?_; clear hF; intro a hF
      refine wpList_on ((wanted_of hF rfl rfl rfl rfl).trans rfl) fun K hK => ?_
      refine w_call hF (x_enter Tryd.func7 (by kernel_rfl) rfl (by simp only [List.map_toArray, List.map_cons, List.map_nil, hF.tmp 42 rfl, hF.tmp 43 rfl] <;> rfl)) (refMore_calls _ (s) ((hH.rd 901 rfl))) rfl rfl ?_
      rintro _ w ⟨rfl, hm_⟩; refine ⟨_, rfl, ?_⟩; clear hF; intro a hF; have hH := hH.same hm_
      refine hK _ _ ?_; clear hK K
      refine l_atg hF ((wanted_of hF rfl rfl rfl rfl).trans rfl) rfl rfl (x_eql (hF.tmp 41 rfl) (hF.tmp 44 rfl)) ?_; clear hF; intro a hF
      rw [decide_eq_true (rfl)] at hF
      refine l_at hF rfl rfl rfl (x_pickT (hF.tmp 38 rfl) rfl (hF.tmp 45 rfl)) ?_; clear hF; intro a hF
      refine l_at hF rfl rfl rfl (x_move (hF.tmp 46 rfl)) ?_; clear hF; intro a hF
      refine l_atg hF ((wanted_of hF rfl rfl rfl rfl).trans rfl) rfl rfl (x_move (hF.tmp 1 rfl)) ?_; clear hF; intro a hF
      refine l_atg hF ((wanted_of hF rfl rfl rfl rfl).trans rfl) rfl rfl (x_move (hF.tmp 2 rfl)) ?_; clear hF; intro a hF
      refine wpList_on ((wanted_of hF rfl rfl rfl rfl).trans rfl) fun K hK => ?_
      refine w_call hF (x_enter Tryd.func11 (by kernel_rfl) rfl (by simp only [List.map_toArray, List.map_cons, List.map_nil, hF.tmp 48 rfl, hF.tmp 49 rfl] <;> rfl)) (noughts_calls _ (s) (n) (hH.rd 902 rfl)) rfl rfl ?_
      rintro _ w ⟨rfl, hm_⟩; refine ⟨_, rfl, ?_⟩; clear hF; intro a hF; have hH := hH.same hm_
      refine hK _ _ ?_; clear hK K
      refine l_atg hF ((wanted_of hF rfl rfl rfl rfl).trans rfl) rfl rfl (x_move (hF.tmp 8 rfl)) ?_; clear hF; intro a hF
      refine l_atg hF ((wanted_of hF rfl rfl rfl rfl).trans rfl) rfl rfl (x_eql (hF.tmp 50 rfl) (hF.tmp 51 rfl)) ?_; clear hF; intro a hF
      rw [decide_eq_true (by rw [noughts_more, List.map_replicate, bv0])] at hF
      refine l_at hF rfl rfl rfl (x_pickT (hF.tmp 47 rfl) rfl (hF.tmp 52 rfl)) ?_; clear hF; intro a hF
      refine l_at hF rfl rfl rfl (x_move (hF.tmp 53 rfl)) ?_; clear hF; intro a hF
      refine l_atg hF ((wanted_of hF rfl rfl rfl rfl).trans rfl) rfl rfl (x_move (hF.tmp 7 rfl)) ?_; clear hF; intro a hF
      refine l_atg hF ((wanted_of hF rfl rfl rfl rfl).trans rfl) rfl rfl (x_b2s Tryd.underlying22 Tryd.underlying5 Tryd.underlying9 ((own_eq xs ▸ Rd.take (Row.rd (ok' := fun k_ => (fun _ => False) k_ ∨ (.slice A21 (([] ++ xs) ++ [7]).length c21 : Value).ownBlock = some k_) (hH.row 17 rfl) (fun _ hk_ _ => .inl hk_) (fun _ hk_ => .inr hk_)) (xs.length : Int).toNat)) (hF.tmp 55 rfl)) ?_; clear hF; intro a hF
      refine l_atg hF ((wanted_of hF rfl rfl rfl rfl).trans rfl) rfl rfl (x_move (hF.tmp 0 rfl)) ?_; clear hF; intro a hF
      refine l_atg hF ((wanted_of hF rfl rfl rfl rfl).trans rfl) rfl rfl (x_b2s Tryd.underlying22 Tryd.underlying5 Tryd.underlying9 ((hH.rd 901 rfl)) (hF.tmp 57 rfl)) ?_; clear hF; intro a hF
      refine l_atg hF ((wanted_of hF rfl rfl rfl rfl).trans rfl) rfl rfl (x_eqs (hF.tmp 56 rfl) (hF.tmp 58 rfl)) ?_; clear hF; intro a hF
      rw [decide_eq_true (rfl)] at hF
      refine l_at hF rfl rfl rfl (x_pickT (hF.tmp 54 rfl) rfl (hF.tmp 59 rfl)) ?_; clear hF; intro a hF
      refine l_at hF rfl rfl rfl (x_assign (hF.tmp 60 rfl)) ?_; clear hF; intro a hF
      refine wpList_nil ?_
      refine hK8 _ _ ?_
      refine wp_ret ?_
      try simp only [Exit.then, Exit.inBlock]
      exact fin_ret hF (res1 hF rfl rfl) ⟨rfl, hH.mods⟩

set_option maxHeartbeats 800000 in
theorem noughtsLaw_calls (w0 : World) (s : B32) (n m : Int) {okT : Nat → Prop} (hT : Rd (.int .u8) w0 okT (some ⟨0, 0, none⟩) tabI 32) : Calls Tryd.prog 5 #[.int .u32 ((s).toNat : Int), .int .i64 n, .int .i64 m] w0 fun e w' => e = .returned (.bool true) ∧ Mods (fun _ => False) w0 w' := by
  refine calls_of_wp Tryd.func5 rfl ?_
  have hF := Fr.enter #[.int .u32 ((s).toNat : Int), .int .i64 n, .int .i64 m] 58 (slotsOf [.int .u32 ((s).toNat : Int), .int .i64 n, .int .i64 m] 0) (Nat.le_of_ble_eq_true rfl) (fun i v h => by have h2 := (get_slotsOf _ 0 i v h).2; simpa only [List.getElem?_toArray, Nat.sub_zero] using h2)
  have hH := Hp.nil (fun _ => False) w0
  rw [Tryd.ntmps5]
  revert hF; generalize (⟨(#[.int .u32 ((s).toNat : Int), .int .i64 n, .int .i64 m] : Array Value) ++ Array.replicate (58 - (#[.int .u32 ((s).toNat : Int), .int .i64 n, .int .i64 m] : Array Value).size) undef, []⟩ : Act) = a; intro hF
  have hH := hH.arg 902 hT.all (fun _ h => ⟨h, fun h => h⟩)
  refine wp_seq_k fun khK1 hK1 => ?_
  refine wp_region_lit ?_
  refine l_at hF rfl rfl rfl (x_assign rfl) ?_; clear hF; intro a hF
  refine wpList_nil ?_
  refine hK1 _ _ ?_
  refine wp_seq_k fun khK2 hK2 => ?_
  refine wp_seq_k fun khK3 hK3 => ?_
  refine wp_region_lit ?_
  refine l_at hF rfl rfl rfl (x_move (hF.tmp 1 rfl)) ?_; clear hF; intro a hF
  refine l_at hF rfl rfl rfl (x_lss (hF.tmp 7 rfl) rfl) ?_; clear hF; intro a hF
  refine l_at hF rfl rfl rfl (x_move (hF.tmp 8 rfl)) ?_; clear hF; intro a hF
  refine split_bool hF 9 rfl (fun hb9 => ?_) (fun hb9 => ?_)
  · have hc9 := hb9; try simp only [Bool.or_eq_true, Bool.and_eq_true, Bool.or_eq_false_iff, Bool.and_eq_false_iff, Bool.not_eq_true', Bool.not_eq_false', decide_eq_true_eq, decide_eq_false_iff_not, Bool.not_true, Bool.not_false] at hc9
    refine l_offg hF ((wanted_of hF rfl rfl rfl rfl).trans (by rw [hb9]; rfl)) rfl rfl ?_; clear hF; intro a hF
    refine l_offg hF ((wanted_of hF rfl rfl rfl rfl).trans (by rw [hb9]; rfl)) rfl rfl ?_; clear hF; intro a hF
    refine l_at hF rfl rfl rfl (x_pickT (hF.tmp 9 rfl) hb9 rfl) ?_; clear hF; intro a hF
    refine l_at hF rfl rfl rfl (x_move (hF.tmp 12 rfl)) ?_; clear hF; intro a hF
    refine l_offg hF ((wanted_of hF rfl rfl rfl rfl).trans rfl) rfl rfl ?_; clear hF; intro a hF
    refine l_offg hF ((wanted_of hF rfl rfl rfl rfl).trans rfl) rfl rfl ?_; clear hF; intro a hF
    refine l_at hF rfl rfl rfl (x_pickT (hF.tmp 13 rfl) rfl rfl) ?_; clear hF; intro a hF
    refine l_at hF rfl rfl rfl (x_move (hF.tmp 16 rfl)) ?_; clear hF; intro a hF
    refine l_offg hF ((wanted_of hF rfl rfl rfl rfl).trans rfl) rfl rfl ?_; clear hF; intro a hF
    refine l_offg hF ((wanted_of hF rfl rfl rfl rfl).trans rfl) rfl rfl ?_; clear hF; intro a hF
    refine l_at hF rfl rfl rfl (x_pickT (hF.tmp 17 rfl) rfl rfl) ?_; clear hF; intro a hF
    refine wpList_nil ?_
    refine hK3 _ _ ?_
    refine wp_cond_true (hF.tmp 20 rfl) ?_
    refine wp_seq_k fun khK4 hK4 => ?_
    refine wp_region_lit ?_
    refine wpList_plain rfl fun K hK => ?_
    refine w_call hF (x_enter Tryd.func6 (by kernel_rfl) rfl (by simp only [List.map_toArray, List.map_cons, List.map_nil] <;> rfl)) (alive_calls _) rfl rfl ?_
    rintro _ w ⟨rfl, hm_⟩; refine ⟨_, rfl, ?_⟩; clear hF; intro a hF; have hH := hH.same hm_
    refine hK _ _ ?_; clear hK K
    refine l_at hF rfl rfl rfl (x_move (hF.tmp 21 rfl)) ?_; clear hF; intro a hF
    refine l_atg hF ((wanted_of hF rfl rfl rfl rfl).trans rfl) rfl rfl (x_move (hF.tmp 0 rfl)) ?_; clear hF; intro a hF
    refine wpList_on ((wanted_of hF rfl rfl rfl rfl).trans rfl) fun K hK => ?_
    refine w_call hF (x_enter Tryd.func11 (by kernel_rfl) rfl (by simp only [List.map_toArray, List.map_cons, List.map_nil, hF.tmp 23 rfl] <;> rfl)) (noughts_calls _ (s) ((-1)) (hH.rd 902 rfl)) rfl rfl ?_
    rintro _ w ⟨rfl, hm_⟩; refine ⟨_, rfl, ?_⟩; clear hF; intro a hF; have hH := hH.same hm_
    refine hK _ _ ?_; clear hK K
    refine l_atg hF ((wanted_of hF rfl rfl rfl rfl).trans rfl) rfl rfl (x_move (hF.tmp 0 rfl)) ?_; clear hF; intro a hF
    refine l_atg hF ((wanted_of hF rfl rfl rfl rfl).trans rfl) rfl rfl (x_eql (hF.tmp 24 rfl) (hF.tmp 25 rfl)) ?_; clear hF; intro a hF
    rw [decide_eq_true (show ((noughtsB s (-1 : Int).toNat).toNat : Int) = (s.toNat : Int) from by rw [show (-1 : Int).toNat = 0 from rfl, noughts_zero])] at hF
    refine l_at hF rfl rfl rfl (x_pickT (hF.tmp 22 rfl) rfl (hF.tmp 26 rfl)) ?_; clear hF; intro a hF
    refine l_at hF rfl rfl rfl (x_assign (hF.tmp 27 rfl)) ?_; clear hF; intro a hF
    refine wpList_nil ?_
    refine hK4 _ _ ?_
    refine wp_ret ?_
    try simp only [Exit.then, Exit.inBlock]
    exact fin_ret hF (res1 hF rfl rfl) ⟨rfl, hH.mods⟩
  · have hc9 := hb9; try simp only [Bool.or_eq_true, Bool.and_eq_true, Bool.or_eq_false_iff, Bool.and_eq_false_iff, Bool.not_eq_true', Bool.not_eq_false', decide_eq_true_eq, decide_eq_false_iff_not, Bool.not_true, Bool.not_false] at hc9
    refine l_atg hF ((wanted_of hF rfl rfl rfl rfl).trans (by rw [hb9]; rfl)) rfl rfl (x_move (hF.tmp 1 rfl)) ?_; clear hF; intro a hF
    refine l_atg hF ((wanted_of hF rfl rfl rfl rfl).trans (by rw [hb9]; rfl)) rfl rfl (x_gtr (hF.tmp 10 rfl) rfl) ?_; clear hF; intro a hF
    refine l_at hF rfl rfl rfl (x_pickF (hF.tmp 9 rfl) hb9 (hF.tmp 11 rfl)) ?_; clear hF; intro a hF
    refine l_at hF rfl rfl rfl (x_move (hF.tmp 12 rfl)) ?_; clear hF; intro a hF
    refine split_bool hF 13 rfl (fun hb13 => ?_) (fun hb13 => ?_)
    · have hc13 := hb13; try simp only [Bool.or_eq_true, Bool.and_eq_true, Bool.or_eq_false_iff, Bool.and_eq_false_iff, Bool.not_eq_true', Bool.not_eq_false', decide_eq_true_eq, decide_eq_false_iff_not, Bool.not_true, Bool.not_false] at hc13
      refine l_offg hF ((wanted_of hF rfl rfl rfl rfl).trans (by rw [hb13]; rfl)) rfl rfl ?_; clear hF; intro a hF
      refine l_offg hF ((wanted_of hF rfl rfl rfl rfl).trans (by rw [hb13]; rfl)) rfl rfl ?_; clear hF; intro a hF
      refine l_at hF rfl rfl rfl (x_pickT (hF.tmp 13 rfl) hb13 rfl) ?_; clear hF; intro a hF
      refine l_at hF rfl rfl rfl (x_move (hF.tmp 16 rfl)) ?_; clear hF; intro a hF
      refine l_offg hF ((wanted_of hF rfl rfl rfl rfl).trans rfl) rfl rfl ?_; clear hF; intro a hF
      refine l_offg hF ((wanted_of hF rfl rfl rfl rfl).trans rfl) rfl rfl ?_; clear hF; intro a hF
      refine l_at hF rfl rfl rfl (x_pickT (hF.tmp 17 rfl) rfl rfl) ?_; clear hF; intro a hF
      refine wpList_nil ?_
      refine hK3 _ _ ?_
      refine wp_cond_true (hF.tmp 20 rfl) ?_
      refine wp_seq_k fun khK5 hK5 => ?_
      refine wp_region_lit ?_
      refine wpList_plain rfl fun K hK => ?_
      refine w_call hF (x_enter Tryd.func6 (by kernel_rfl) rfl (by simp only [List.map_toArray, List.map_cons, List.map_nil] <;> rfl)) (alive_calls _) rfl rfl ?_
      rintro _ w ⟨rfl, hm_⟩; refine ⟨_, rfl, ?_⟩; clear hF; intro a hF; have hH := hH.same hm_
      refine hK _ _ ?_; clear hK K
      refine l_at hF rfl rfl rfl (x_move (hF.tmp 21 rfl)) ?_; clear hF; intro a hF
      refine l_atg hF ((wanted_of hF rfl rfl rfl rfl).trans rfl) rfl rfl (x_move (hF.tmp 0 rfl)) ?_; clear hF; intro a hF
      refine wpList_on ((wanted_of hF rfl rfl rfl rfl).trans rfl) fun K hK => ?_
      refine w_call hF (x_enter Tryd.func11 (by kernel_rfl) rfl (by simp only [List.map_toArray, List.map_cons, List.map_nil, hF.tmp 23 rfl] <;> rfl)) (noughts_calls _ (s) ((-1)) (hH.rd 902 rfl)) rfl rfl ?_
      rintro _ w ⟨rfl, hm_⟩; refine ⟨_, rfl, ?_⟩; clear hF; intro a hF; have hH := hH.same hm_
      refine hK _ _ ?_; clear hK K
      refine l_atg hF ((wanted_of hF rfl rfl rfl rfl).trans rfl) rfl rfl (x_move (hF.tmp 0 rfl)) ?_; clear hF; intro a hF
      refine l_atg hF ((wanted_of hF rfl rfl rfl rfl).trans rfl) rfl rfl (x_eql (hF.tmp 24 rfl) (hF.tmp 25 rfl)) ?_; clear hF; intro a hF
      rw [decide_eq_true (show ((noughtsB s (-1 : Int).toNat).toNat : Int) = (s.toNat : Int) from by rw [show (-1 : Int).toNat = 0 from rfl, noughts_zero])] at hF
      refine l_at hF rfl rfl rfl (x_pickT (hF.tmp 22 rfl) rfl (hF.tmp 26 rfl)) ?_; clear hF; intro a hF
      refine l_at hF rfl rfl rfl (x_assign (hF.tmp 27 rfl)) ?_; clear hF; intro a hF
      refine wpList_nil ?_
      refine hK5 _ _ ?_
      refine wp_ret ?_
      try simp only [Exit.then, Exit.inBlock]
      exact fin_ret hF (res1 hF rfl rfl) ⟨rfl, hH.mods⟩
    · have hc13 := hb13; try simp only [Bool.or_eq_true, Bool.and_eq_true, Bool.or_eq_false_iff, Bool.and_eq_false_iff, Bool.not_eq_true', Bool.not_eq_false', decide_eq_true_eq, decide_eq_false_iff_not, Bool.not_true, Bool.not_false] at hc13
      refine l_atg hF ((wanted_of hF rfl rfl rfl rfl).trans (by rw [hb13]; rfl)) rfl rfl (x_move (hF.tmp 2 rfl)) ?_; clear hF; intro a hF
      refine l_atg hF ((wanted_of hF rfl rfl rfl rfl).trans (by rw [hb13]; rfl)) rfl rfl (x_lss (hF.tmp 14 rfl) rfl) ?_; clear hF; intro a hF
      refine l_at hF rfl rfl rfl (x_pickF (hF.tmp 13 rfl) hb13 (hF.tmp 15 rfl)) ?_; clear hF; intro a hF
      refine l_at hF rfl rfl rfl (x_move (hF.tmp 16 rfl)) ?_; clear hF; intro a hF
      refine split_bool hF 17 rfl (fun hb17 => ?_) (fun hb17 => ?_)
      · have hc17 := hb17; try simp only [Bool.or_eq_true, Bool.and_eq_true, Bool.or_eq_false_iff, Bool.and_eq_false_iff, Bool.not_eq_true', Bool.not_eq_false', decide_eq_true_eq, decide_eq_false_iff_not, Bool.not_true, Bool.not_false] at hc17
        refine l_offg hF ((wanted_of hF rfl rfl rfl rfl).trans (by rw [hb17]; rfl)) rfl rfl ?_; clear hF; intro a hF
        refine l_offg hF ((wanted_of hF rfl rfl rfl rfl).trans (by rw [hb17]; rfl)) rfl rfl ?_; clear hF; intro a hF
        refine l_at hF rfl rfl rfl (x_pickT (hF.tmp 17 rfl) hb17 rfl) ?_; clear hF; intro a hF
        refine wpList_nil ?_
        refine hK3 _ _ ?_
        refine wp_cond_true (hF.tmp 20 rfl) ?_
        refine wp_seq_k fun khK6 hK6 => ?_
        refine wp_region_lit ?_
        refine wpList_plain rfl fun K hK => ?_
        refine w_call hF (x_enter Tryd.func6 (by kernel_rfl) rfl (by simp only [List.map_toArray, List.map_cons, List.map_nil] <;> rfl)) (alive_calls _) rfl rfl ?_
        rintro _ w ⟨rfl, hm_⟩; refine ⟨_, rfl, ?_⟩; clear hF; intro a hF; have hH := hH.same hm_
        refine hK _ _ ?_; clear hK K
        refine l_at hF rfl rfl rfl (x_move (hF.tmp 21 rfl)) ?_; clear hF; intro a hF
        refine l_atg hF ((wanted_of hF rfl rfl rfl rfl).trans rfl) rfl rfl (x_move (hF.tmp 0 rfl)) ?_; clear hF; intro a hF
        refine wpList_on ((wanted_of hF rfl rfl rfl rfl).trans rfl) fun K hK => ?_
        refine w_call hF (x_enter Tryd.func11 (by kernel_rfl) rfl (by simp only [List.map_toArray, List.map_cons, List.map_nil, hF.tmp 23 rfl] <;> rfl)) (noughts_calls _ (s) ((-1)) (hH.rd 902 rfl)) rfl rfl ?_
        rintro _ w ⟨rfl, hm_⟩; refine ⟨_, rfl, ?_⟩; clear hF; intro a hF; have hH := hH.same hm_
        refine hK _ _ ?_; clear hK K
        refine l_atg hF ((wanted_of hF rfl rfl rfl rfl).trans rfl) rfl rfl (x_move (hF.tmp 0 rfl)) ?_; clear hF; intro a hF
        refine l_atg hF ((wanted_of hF rfl rfl rfl rfl).trans rfl) rfl rfl (x_eql (hF.tmp 24 rfl) (hF.tmp 25 rfl)) ?_; clear hF; intro a hF
        rw [decide_eq_true (show ((noughtsB s (-1 : Int).toNat).toNat : Int) = (s.toNat : Int) from by rw [show (-1 : Int).toNat = 0 from rfl, noughts_zero])] at hF
        refine l_at hF rfl rfl rfl (x_pickT (hF.tmp 22 rfl) rfl (hF.tmp 26 rfl)) ?_; clear hF; intro a hF
        refine l_at hF rfl rfl rfl (x_assign (hF.tmp 27 rfl)) ?_; clear hF; intro a hF
        refine wpList_nil ?_
        refine hK6 _ _ ?_
        refine wp_ret ?_
        try simp only [Exit.then, Exit.inBlock]
        exact fin_ret hF (res1 hF rfl rfl) ⟨rfl, hH.mods⟩
      · have hc17 := hb17; try simp only [Bool.or_eq_true, Bool.and_eq_true, Bool.or_eq_false_iff, Bool.and_eq_false_iff, Bool.not_eq_true', Bool.not_eq_false', decide_eq_true_eq, decide_eq_false_iff_not, Bool.not_true, Bool.not_false] at hc17
        refine l_atg hF ((wanted_of hF rfl rfl rfl rfl).trans (by rw [hb17]; rfl)) rfl rfl (x_move (hF.tmp 2 rfl)) ?_; clear hF; intro a hF
        refine l_atg hF ((wanted_of hF rfl rfl rfl rfl).trans (by rw [hb17]; rfl)) rfl rfl (x_gtr (hF.tmp 18 rfl) rfl) ?_; clear hF; intro a hF
        refine l_at hF rfl rfl rfl (x_pickF (hF.tmp 17 rfl) hb17 (hF.tmp 19 rfl)) ?_; clear hF; intro a hF
        refine wpList_nil ?_
        refine hK3 _ _ ?_
        refine wp_cond_split (hF.tmp 20 rfl) (fun hc20 => ?_) (fun hc20 => ?_)
        · try simp only [Bool.or_eq_true, Bool.and_eq_true, Bool.or_eq_false_iff, Bool.and_eq_false_iff, Bool.not_eq_true', Bool.not_eq_false', decide_eq_true_eq, decide_eq_false_iff_not, Bool.not_true, Bool.not_false] at hc20
          refine wp_seq_k fun khK7 hK7 => ?_
          refine wp_region_lit ?_
          refine wpList_plain rfl fun K hK => ?_
          refine w_call hF (x_enter Tryd.func6 (by kernel_rfl) rfl (by simp only [List.map_toArray, List.map_cons, List.map_nil] <;> rfl)) (alive_calls _) rfl rfl ?_
          rintro _ w ⟨rfl, hm_⟩; refine ⟨_, rfl, ?_⟩; clear hF; intro a hF; have hH := hH.same hm_
          refine hK _ _ ?_; clear hK K
          refine l_at hF rfl rfl rfl (x_move (hF.tmp 21 rfl)) ?_; clear hF; intro a hF
          refine l_atg hF ((wanted_of hF rfl rfl rfl rfl).trans rfl) rfl rfl (x_move (hF.tmp 0 rfl)) ?_; clear hF; intro a hF
          refine wpList_on ((wanted_of hF rfl rfl rfl rfl).trans rfl) fun K hK => ?_
          refine w_call hF (x_enter Tryd.func11 (by kernel_rfl) rfl (by simp only [List.map_toArray, List.map_cons, List.map_nil, hF.tmp 23 rfl] <;> rfl)) (noughts_calls _ (s) ((-1)) (hH.rd 902 rfl)) rfl rfl ?_
          rintro _ w ⟨rfl, hm_⟩; refine ⟨_, rfl, ?_⟩; clear hF; intro a hF; have hH := hH.same hm_
          refine hK _ _ ?_; clear hK K
          refine l_atg hF ((wanted_of hF rfl rfl rfl rfl).trans rfl) rfl rfl (x_move (hF.tmp 0 rfl)) ?_; clear hF; intro a hF
          refine l_atg hF ((wanted_of hF rfl rfl rfl rfl).trans rfl) rfl rfl (x_eql (hF.tmp 24 rfl) (hF.tmp 25 rfl)) ?_; clear hF; intro a hF
          rw [decide_eq_true (show ((noughtsB s (-1 : Int).toNat).toNat : Int) = (s.toNat : Int) from by rw [show (-1 : Int).toNat = 0 from rfl, noughts_zero])] at hF
          refine l_at hF rfl rfl rfl (x_pickT (hF.tmp 22 rfl) rfl (hF.tmp 26 rfl)) ?_; clear hF; intro a hF
          refine l_at hF rfl rfl rfl (x_assign (hF.tmp 27 rfl)) ?_; clear hF; intro a hF
          refine wpList_nil ?_
          refine hK7 _ _ ?_
          refine wp_ret ?_
          try simp only [Exit.then, Exit.inBlock]
          exact fin_ret hF (res1 hF rfl rfl) ⟨rfl, hH.mods⟩
        · try simp only [Bool.or_eq_true, Bool.and_eq_true, Bool.or_eq_false_iff, Bool.and_eq_false_iff, Bool.not_eq_true', Bool.not_eq_false', decide_eq_true_eq, decide_eq_false_iff_not, Bool.not_true, Bool.not_false] at hc20
          refine wp_skip ?_
          refine hK2 _ _ ?_
          refine wp_seq_k fun khK8 hK8 => ?_
          refine wp_region_lit ?_
          refine wpList_plain rfl fun K hK => ?_
          refine w_call hF (x_enter Tryd.func6 (by kernel_rfl) rfl (by simp only [List.map_toArray, List.map_cons, List.map_nil] <;> rfl)) (alive_calls _) rfl rfl ?_
          rintro _ w ⟨rfl, hm_⟩; refine ⟨_, rfl, ?_⟩; clear hF; intro a hF; have hH := hH.same hm_
          refine hK _ _ ?_; clear hK K
          refine l_at hF rfl rfl rfl (x_move (hF.tmp 28 rfl)) ?_; clear hF; intro a hF
          refine l_atg hF ((wanted_of hF rfl rfl rfl rfl).trans rfl) rfl rfl (x_move (hF.tmp 0 rfl)) ?_; clear hF; intro a hF
          refine l_atg hF ((wanted_of hF rfl rfl rfl rfl).trans rfl) rfl rfl (x_move (hF.tmp 1 rfl)) ?_; clear hF; intro a hF
          refine wpList_on ((wanted_of hF rfl rfl rfl rfl).trans rfl) fun K hK => ?_
          refine w_call hF (x_enter Tryd.func11 (by kernel_rfl) rfl (by simp only [List.map_toArray, List.map_cons, List.map_nil, hF.tmp 30 rfl, hF.tmp 31 rfl] <;> rfl)) (noughts_calls _ (s) (n) (hH.rd 902 rfl)) rfl rfl ?_
          rintro _ w ⟨rfl, hm_⟩; refine ⟨_, rfl, ?_⟩; clear hF; intro a hF; have hH := hH.same hm_
          refine hK _ _ ?_; clear hK K
          refine l_atg hF ((wanted_of hF rfl rfl rfl rfl).trans rfl) rfl rfl (x_move (hF.tmp 2 rfl)) ?_; clear hF; intro a hF
          refine wpList_on ((wanted_of hF rfl rfl rfl rfl).trans rfl) fun K hK => ?_
          refine w_call hF (x_enter Tryd.func11 (by kernel_rfl) rfl (by simp only [List.map_toArray, List.map_cons, List.map_nil, hF.tmp 32 rfl, hF.tmp 33 rfl] <;> rfl)) (noughts_calls _ (noughtsB (s) (n).toNat) (m) (hH.rd 902 rfl)) rfl rfl ?_
          rintro _ w ⟨rfl, hm_⟩; refine ⟨_, rfl, ?_⟩; clear hF; intro a hF; have hH := hH.same hm_
          refine hK _ _ ?_; clear hK K
          refine l_atg hF ((wanted_of hF rfl rfl rfl rfl).trans rfl) rfl rfl (x_move (hF.tmp 0 rfl)) ?_; clear hF; intro a hF
          refine l_atg hF ((wanted_of hF rfl rfl rfl rfl).trans rfl) rfl rfl (x_move (hF.tmp 1 rfl)) ?_; clear hF; intro a hF
          refine l_atg hF ((wanted_of hF rfl rfl rfl rfl).trans rfl) rfl rfl (x_move (hF.tmp 2 rfl)) ?_; clear hF; intro a hF
          refine l_atg hF ((wanted_of hF rfl rfl rfl rfl).trans rfl) rfl rfl (x_add (hF.tmp 36 rfl) (hF.tmp 37 rfl) (w64 (by omega) (by omega))) ?_; clear hF; intro a hF
          refine wpList_on ((wanted_of hF rfl rfl rfl rfl).trans rfl) fun K hK => ?_
          refine w_call hF (x_enter Tryd.func11 (by kernel_rfl) rfl (by simp only [List.map_toArray, List.map_cons, List.map_nil, hF.tmp 35 rfl, hF.tmp 38 rfl] <;> rfl)) (noughts_calls _ (s) ((n + m)) (hH.rd 902 rfl)) rfl rfl ?_
          rintro _ w ⟨rfl, hm_⟩; refine ⟨_, rfl, ?_⟩; clear hF; intro a hF; have hH := hH.same hm_
          refine hK _ _ ?_; clear hK K
          refine l_atg hF ((wanted_of hF rfl rfl rfl rfl).trans rfl) rfl rfl (x_eql (hF.tmp 34 rfl) (hF.tmp 39 rfl)) ?_; clear hF; intro a hF
          rw [decide_eq_true (by rw [noughts_add, show (n + m).toNat = n.toNat + m.toNat by omega])] at hF
          refine l_at hF rfl rfl rfl (x_pickT (hF.tmp 29 rfl) rfl (hF.tmp 40 rfl)) ?_; clear hF; intro a hF
          refine l_at hF rfl rfl rfl (x_move (hF.tmp 41 rfl)) ?_; clear hF; intro a hF
          refine l_atg hF ((wanted_of hF rfl rfl rfl rfl).trans rfl) rfl rfl (x_move (hF.tmp 0 rfl)) ?_; clear hF; intro a hF
          refine wpList_on ((wanted_of hF rfl rfl rfl rfl).trans rfl) fun K hK => ?_
          refine w_call hF (x_enter Tryd.func11 (by kernel_rfl) rfl (by simp only [List.map_toArray, List.map_cons, List.map_nil, hF.tmp 43 rfl] <;> rfl)) (noughts_calls _ (s) (0) (hH.rd 902 rfl)) rfl rfl ?_
          rintro _ w ⟨rfl, hm_⟩; refine ⟨_, rfl, ?_⟩; clear hF; intro a hF; have hH := hH.same hm_
          refine hK _ _ ?_; clear hK K
          refine l_atg hF ((wanted_of hF rfl rfl rfl rfl).trans rfl) rfl rfl (x_move (hF.tmp 0 rfl)) ?_; clear hF; intro a hF
          refine l_atg hF ((wanted_of hF rfl rfl rfl rfl).trans rfl) rfl rfl (x_eql (hF.tmp 44 rfl) (hF.tmp 45 rfl)) ?_; clear hF; intro a hF
          rw [decide_eq_true (by rw [show ((0 : Int)).toNat = 0 from rfl, noughts_zero])] at hF
          refine l_at hF rfl rfl rfl (x_pickT (hF.tmp 42 rfl) rfl (hF.tmp 46 rfl)) ?_; clear hF; intro a hF
          refine l_at hF rfl rfl rfl (x_move (hF.tmp 47 rfl)) ?_; clear hF; intro a hF
          refine l_atg hF ((wanted_of hF rfl rfl rfl rfl).trans rfl) rfl rfl (x_move (hF.tmp 0 rfl)) ?_; clear hF; intro a hF
          refine l_atg hF ((wanted_of hF rfl rfl rfl rfl).trans rfl) rfl rfl (x_move (hF.tmp 1 rfl)) ?_; clear hF; intro a hF
          have hn0 : n = ((n.toNat : Nat) : Int) := by omega
          rw [hn0] at hF
          refine wpList_on ((wanted_of hF rfl rfl rfl rfl).trans rfl) fun K hK => ?_
          refine w_make 51 (enc := Value.int .u8) (h1 := fun _ => rfl) (0 : Int) hF hH rfl Tryd.underlying22 ty5 rfl (hF.tmp 50 rfl) (hF.tmp 50 rfl) (by omega) (by unfold maxLen; omega) ?_
          clear hF hH; intro a w b51 hF hH
          refine hK _ _ ?_; clear hK K
          refine wpList_on ((wanted_of hF rfl rfl rfl rfl).trans rfl) fun K hK => ?_
          refine w_call hF (x_enter Tryd.func10 (by kernel_rfl) rfl (by simp only [List.map_toArray, List.map_cons, List.map_nil, hF.tmp 49 rfl, hF.tmp 51 rfl] <;> rfl)) (moreB_calls _ (s) (Row.rd (ok' := fun k_ => (fun _ => False) k_ ∨ (.slice (some ⟨b51, 0, none⟩) (List.replicate n.toNat 0).length n.toNat : Value).ownBlock = some k_) (hH.row 51 rfl) (fun _ hk_ _ => .inl hk_) (fun _ hk_ => .inr hk_))) rfl rfl ?_
          rintro _ w ⟨rfl, hm_⟩; refine ⟨_, rfl, ?_⟩; clear hF; intro a hF; have hH := hH.same hm_
          refine hK _ _ ?_; clear hK K
          refine l_atg hF ((wanted_of hF rfl rfl rfl rfl).trans rfl) rfl rfl (x_move (hF.tmp 0 rfl)) ?_; clear hF; intro a hF
          refine l_atg hF ((wanted_of hF rfl rfl rfl rfl).trans rfl) rfl rfl (x_move (hF.tmp 1 rfl)) ?_; clear hF; intro a hF
          refine wpList_on ((wanted_of hF rfl rfl rfl rfl).trans rfl) fun K hK => ?_
          refine w_call hF (x_enter Tryd.func11 (by kernel_rfl) rfl (by simp only [List.map_toArray, List.map_cons, List.map_nil, hF.tmp 53 rfl, hF.tmp 54 rfl] <;> rfl)) (noughts_calls _ (s) (((n.toNat : Nat) : Int)) (hH.rd 902 rfl)) rfl rfl ?_
          rintro _ w ⟨rfl, hm_⟩; refine ⟨_, rfl, ?_⟩; clear hF; intro a hF; have hH := hH.same hm_
          refine hK _ _ ?_; clear hK K
          refine l_atg hF ((wanted_of hF rfl rfl rfl rfl).trans rfl) rfl rfl (x_eql (hF.tmp 52 rfl) (hF.tmp 55 rfl)) ?_; clear hF; intro a hF
          rw [decide_eq_true (by rw [Int.toNat_natCast, noughts_more, List.map_replicate, bv0])] at hF
          refine l_at hF rfl rfl rfl (x_pickT (hF.tmp 48 rfl) rfl (hF.tmp 56 rfl)) ?_; clear hF; intro a hF
          refine l_at hF rfl rfl rfl (x_assign (hF.tmp 57 rfl)) ?_; clear hF; intro a hF
          refine wpList_nil ?_
          refine hK8 _ _ ?_
          refine wp_ret ?_
          try simp only [Exit.then, Exit.inBlock]
          exact fin_ret hF (res1 hF rfl rfl) ⟨rfl, hH.mods⟩

set_option maxHeartbeats 800000 in
theorem pieces_calls (w0 : World) {ok : Nat → Prop} {A0 A1 A2 : Option Addr} {l0 l1 l2 : List Int} {c0 c1 c2 : Nat} (hr0 : Rd (.int .u8) w0 ok A0 l0 c0) (hr1 : Rd (.int .u8) w0 ok A1 l1 c1) (hr2 : Rd (.int .u8) w0 ok A2 l2 c2) {okT : Nat → Prop} (hT : Rd (.int .u8) w0 okT (some ⟨0, 0, none⟩) tabI 32) : Calls Tryd.prog 4 #[.agg #[.slice A0 l0.length c0, .slice A1 l1.length c1, .slice A2 l2.length c2]] w0 fun e w' => e = .returned (.bool true) ∧ Mods (fun _ => False) w0 w' := by
  refine calls_of_wp Tryd.func4 rfl ?_
  have hF := Fr.enter #[.agg #[.slice A0 l0.length c0, .slice A1 l1.length c1, .slice A2 l2.length c2]] 90 (slotsOf [.agg #[.slice A0 l0.length c0, .slice A1 l1.length c1, .slice A2 l2.length c2]] 0) (Nat.le_of_ble_eq_true rfl) (fun i v h => by have h2 := (get_slotsOf _ 0 i v h).2; simpa only [List.getElem?_toArray, Nat.sub_zero] using h2)
  have hH := Hp.nil (fun _ => False) w0
  rw [Tryd.ntmps4]
  revert hF; generalize (⟨(#[.agg #[.slice A0 l0.length c0, .slice A1 l1.length c1, .slice A2 l2.length c2]] : Array Value) ++ Array.replicate (90 - (#[.agg #[.slice A0 l0.length c0, .slice A1 l1.length c1, .slice A2 l2.length c2]] : Array Value).size) undef, []⟩ : Act) = a; intro hF
  have hH := hH.arg 903 hr0.all (fun _ h => ⟨h, fun h => h⟩)
  have hle0 := hr0.le; unfold maxLen at hle0
  have hH := hH.arg 904 hr1.all (fun _ h => ⟨h, fun h => h⟩)
  have hle1 := hr1.le; unfold maxLen at hle1
  have hH := hH.arg 905 hr2.all (fun _ h => ⟨h, fun h => h⟩)
  have hle2 := hr2.le; unfold maxLen at hle2
  have hH := hH.arg 902 hT.all (fun _ h => ⟨h, fun h => h⟩)
  refine wp_seq_k fun khK1 hK1 => ?_
  refine wp_region_lit ?_
  refine wpList_plain rfl fun K hK => ?_
  refine w_box 1 hF hH rfl (hF.tmp 0 rfl) ?_
  clear hF hH; intro a w b1 hF hH
  refine hK _ _ ?_; clear hK K
  refine l_at hF rfl rfl rfl (x_assign rfl) ?_; clear hF; intro a hF
  refine wpList_nil ?_
  refine hK1 _ _ ?_
  refine wp_seq_k fun khK2 hK2 => ?_
  refine wp_seq_k fun khK3 hK3 => ?_
  refine wp_region_lit ?_
  refine l_at hF rfl rfl rfl (x_assign rfl) ?_; clear hF; intro a hF
  refine wpList_nil ?_
  refine hK3 _ _ ?_
  refine wp_block ?_
  refine wp_loop_ghost (fun n_ a w => ∃ k : Nat, n_ = 3 - k ∧ (k ≤ 3) ∧ (0 < k → l0.length ≤ 3000) ∧ (1 < k → l1.length ≤ 3000) ∧ (2 < k → l2.length ≤ 3000) ∧ Fr 90 a [(1, .pointer (some ⟨b1, 0, none⟩)), (3, .int .i64 (k : Int))] ∧ Hp (fun _ => False) w0 w [(903, .rd_ (.int .u8) A0 l0 c0 (fun k => k < w0.heap.size)), (904, .rd_ (.int .u8) A1 l1 c1 (fun k => k < w0.heap.size)), (905, .rd_ (.int .u8) A2 l2 c2 (fun k => k < w0.heap.size)), (902, .rd_ (.int .u8) (some ⟨0, 0, none⟩) tabI 32 (fun k => k < w0.heap.size)), (1, .blk b1 (.cells #[.slice A0 l0.length c0, .slice A1 l1.length c1, .slice A2 l2.length c2] 29 (0, 0)))]) (3) ?_ ?_
  · exact ⟨0, rfl, by omega, by omega, by omega, by omega, ((hF.bare.add hF 3 rfl).add hF 1 rfl), hH.sub _ (sub_cons (sub_cons (sub_cons (sub_cons (sub_cons (sub_nil _) 1 rfl) 902 rfl) 905 rfl) 904 rfl) 903 rfl)⟩
  · rintro _ a w ⟨k, rfl, hq0_0, hq0_1, hq0_2, hq0_3, hF, hH⟩
    refine wp_seq_k fun khK4 hK4 => ?_
    refine wp_seq_k fun khK5 hK5 => ?_
    refine wp_region_lit ?_
    refine l_at hF rfl rfl rfl (x_move (hF.tmp 3 rfl)) ?_; clear hF; intro a hF
    refine l_at hF rfl rfl rfl (x_lss (hF.tmp 11 rfl) rfl) ?_; clear hF; intro a hF
    refine wpList_nil ?_
    refine hK5 _ _ ?_
    refine wp_cond_split (hF.tmp 12 rfl) (fun hc12 => ?_) (fun hc12 => ?_)
    · try simp only [Bool.or_eq_true, Bool.and_eq_true, Bool.or_eq_false_iff, Bool.and_eq_false_iff, Bool.not_eq_true', Bool.not_eq_false', decide_eq_true_eq, decide_eq_false_iff_not, Bool.not_true, Bool.not_false] at hc12
      refine wp_skip ?_
      refine hK4 _ _ ?_
      refine wp_seq_k fun khK6 hK6 => ?_
      refine wp_block ?_
      refine wp_seq_k fun khK7 hK7 => ?_
      refine wp_region_lit ?_
      refine l_at hF rfl rfl rfl (x_move (hF.tmp 3 rfl)) ?_; clear hF; intro a hF
      refine l_at hF rfl rfl rfl (x_iaddr_arr Tryd.underlying29 ty22 (hF.tmp 1 rfl) (hF.tmp 15 rfl) (by omega) (by omega)) ?_; clear hF; intro a hF
      refine l_at hF rfl rfl rfl (x_load1 ty22 (hF.tmp 16 rfl) (blk_cell (hH.at 1 rfl) _ (three_at (by omega)))) ?_; clear hF; intro a hF
      refine l_at hF rfl rfl rfl (x_len_slice Tryd.underlying22 (hF.tmp 17 rfl)) ?_; clear hF; intro a hF
      refine l_at hF rfl rfl rfl (x_gtr (hF.tmp 18 rfl) rfl) ?_; clear hF; intro a hF
      refine wpList_nil ?_
      refine hK7 _ _ ?_
      refine wp_cond_split (hF.tmp 19 rfl) (fun hc19 => ?_) (fun hc19 => ?_)
      · try simp only [Bool.or_eq_true, Bool.and_eq_true, Bool.or_eq_false_iff, Bool.and_eq_false_iff, Bool.not_eq_true', Bool.not_eq_false', decide_eq_true_eq, decide_eq_false_iff_not, Bool.not_true, Bool.not_false] at hc19
        refine wp_seq_k fun khK8 hK8 => ?_
        refine wp_region_lit ?_
        refine wpList_plain rfl fun K hK => ?_
        refine w_call hF (x_enter Tryd.func6 (by kernel_rfl) rfl (by simp only [List.map_toArray, List.map_cons, List.map_nil] <;> rfl)) (alive_calls _) rfl rfl ?_
        rintro _ w ⟨rfl, hm_⟩; refine ⟨_, rfl, ?_⟩; clear hF; intro a hF; have hH := hH.same hm_
        refine hK _ _ ?_; clear hK K
        refine l_at hF rfl rfl rfl (x_assign (hF.tmp 20 rfl)) ?_; clear hF; intro a hF
        refine wpList_nil ?_
        refine hK8 _ _ ?_
        refine wp_ret ?_
        try simp only [Exit.then, Exit.inBlock]
        exact fin_ret hF (res1 hF rfl rfl) ⟨rfl, hH.mods⟩
      · try simp only [Bool.or_eq_true, Bool.and_eq_true, Bool.or_eq_false_iff, Bool.and_eq_false_iff, Bool.not_eq_true', Bool.not_eq_false', decide_eq_true_eq, decide_eq_false_iff_not, Bool.not_true, Bool.not_false] at hc19
        have hpk := pk3_le (show k < 3 by omega) hq0_1 hq0_2 hq0_3 (by omega)
        refine wp_skip ?_
        refine hK6 _ _ ?_
        refine wp_region_lit ?_
        refine l_at hF rfl rfl rfl (x_move (hF.tmp 3 rfl)) ?_; clear hF; intro a hF
        refine l_at hF rfl rfl rfl (x_add (hF.tmp 13 rfl) rfl (w64 (by omega) (by omega))) ?_; clear hF; intro a hF
        refine l_at hF rfl rfl rfl (x_assign (hF.tmp 14 rfl)) ?_; clear hF; intro a hF
        refine wpList_nil ?_
        exact ⟨_, by omega, ⟨k + 1, rfl, by omega, hpk.1, hpk.2.1, hpk.2.2, ((hF.bare.add hF 3 rfl).add hF 1 rfl), hH.sub _ (sub_cons (sub_cons (sub_cons (sub_cons (sub_cons (sub_nil _) 1 rfl) 902 rfl) 905 rfl) 904 rfl) 903 rfl)⟩⟩
    · try simp only [Bool.or_eq_true, Bool.and_eq_true, Bool.or_eq_false_iff, Bool.and_eq_false_iff, Bool.not_eq_true', Bool.not_eq_false', decide_eq_true_eq, decide_eq_false_iff_not, Bool.not_true, Bool.not_false] at hc12
      obtain rfl : k = 3 := by omega
      have hl0 := hq0_1 (by omega)
      have hl1 := hq0_2 (by omega)
      have hl2 := hq0_3 (by omega)
      refine wp_exit ?_
      refine hK2 _ _ ?_
      refine wp_seq_k fun khK9 hK9 => ?_
      refine r_start [(1, .blk b1 (.cells #[.slice A0 l0.length c0, .slice A1 l1.length c1, .slice A2 l2.length c2] 29 (0, 0)))] (by kernel_rfl) hH fun hH => ?_
      have hS : SL [(1, .blk b1 (.cells #[.slice A0 l0.length c0, .slice A1 l1.length c1, .slice A2 l2.length c2] 29 (0, 0)))] _ := SL.of hH (sub_cons (sub_nil _) 1 rfl)
      refine r_take 1 hF rfl rfl rfl (by kernel_rfl) (by kernel_rfl) (by kernel_rfl) (fun _ _ _ h => h) rfl hS (fun w hS => x_iaddr_arr Tryd.underlying29 ty22 (hF.tmp 1 rfl) rfl (by omega) (by omega)) rfl ?_; clear hF; intro a hF
      refine r_take 2 hF rfl rfl rfl (by kernel_rfl) (by kernel_rfl) (by kernel_rfl) (fun _ _ _ h => h) rfl hS (fun w hS => x_load1 ty22 (hF.tmp 22 rfl) (blk_cell (SL.at_ hS 1 rfl) _ rfl)) rfl ?_; clear hF; intro a hF
      refine r_take 4 hF rfl rfl rfl (by kernel_rfl) (by kernel_rfl) (by kernel_rfl) (fun _ _ _ h => h) rfl hS (fun w hS => x_iaddr_arr Tryd.underlying29 ty22 (hF.tmp 1 rfl) rfl (by omega) (by omega)) rfl ?_; clear hF; intro a hF
      refine r_take 5 hF rfl rfl rfl (by kernel_rfl) (by kernel_rfl) (by kernel_rfl) (fun _ _ _ h => h) rfl hS (fun w hS => x_load1 ty22 (hF.tmp 25 rfl) (blk_cell (SL.at_ hS 1 rfl) _ rfl)) rfl ?_; clear hF; intro a hF
      refine r_take 7 hF rfl rfl rfl (by kernel_rfl) (by kernel_rfl) (by kernel_rfl) (fun _ _ _ h => h) rfl hS (fun w hS => x_iaddr_arr Tryd.underlying29 ty22 (hF.tmp 1 rfl) rfl (by omega) (by omega)) rfl ?_; clear hF; intro a hF
      refine r_take 8 hF rfl rfl rfl (by kernel_rfl) (by kernel_rfl) (by kernel_rfl) (fun _ _ _ h => h) rfl hS (fun w hS => x_load1 ty22 (hF.tmp 28 rfl) (blk_cell (SL.at_ hS 1 rfl) _ rfl)) rfl ?_; clear hF; intro a hF
      refine r_do 0 rfl (by kernel_rfl) rfl rfl ?_
      refine w_lit0 (.int .u8) 21 hF hH rfl Tryd.underlying22 ty5 ?_
      clear hF hH; intro a w b21 hF hH
      clear hS; have hS : SL _ _ := SL.of hH (sub_cons (sub_nil _) 1 rfl); refine ⟨hS, ?_⟩
      refine r_do 3 rfl (by kernel_rfl) rfl rfl ?_
      refine w_append 21 903 hF hH rfl Tryd.underlying22 ty5 rfl rfl rfl rfl ((hH.rd 903 rfl)) (by intro k_ hk_; exact .inr hk_) (hF.tmp 21 rfl) (hF.tmp 23 rfl) (by simp only [List.length_append, List.length_nil, List.length_cons] at *; omega) (by simp only [List.length_append, List.length_nil, List.length_cons, maxLen] at *; omega) (fun _ => False) (fun w' v' h => row_flat h _) (fun k_ hk_ => hk_.elim) ?_
      clear hF hH; intro a w v24 hF hH
      clear hS; have hS : SL _ _ := SL.of hH (sub_cons (sub_nil _) 1 rfl); refine ⟨hS, ?_⟩
      refine r_do 6 rfl (by kernel_rfl) rfl rfl ?_
      refine w_append 21 904 hF hH rfl Tryd.underlying22 ty5 rfl rfl rfl rfl ((hH.rd 904 rfl)) (by intro k_ hk_; exact .inr hk_) (hF.tmp 24 rfl) (hF.tmp 26 rfl) (by simp only [List.length_append, List.length_nil, List.length_cons] at *; omega) (by simp only [List.length_append, List.length_nil, List.length_cons, maxLen] at *; omega) (fun _ => False) (fun w' v' h => row_flat h _) (fun k_ hk_ => hk_.elim) ?_
      clear hF hH; intro a w v27 hF hH
      clear hS; have hS : SL _ _ := SL.of hH (sub_cons (sub_nil _) 1 rfl); refine ⟨hS, ?_⟩
      refine r_do 9 rfl (by kernel_rfl) rfl rfl ?_
      refine w_append 21 905 hF hH rfl Tryd.underlying22 ty5 rfl rfl rfl rfl ((hH.rd 905 rfl)) (by intro k_ hk_; exact .inr hk_) (hF.tmp 27 rfl) (hF.tmp 29 rfl) (by simp only [List.length_append, List.length_nil, List.length_cons] at *; omega) (by simp only [List.length_append, List.length_nil, List.length_cons, maxLen] at *; omega) (fun _ => False) (fun w' v' h => row_flat h _) (fun k_ hk_ => hk_.elim) ?_
      clear hF hH; intro a w v30 hF hH
      clear hS; have hS : SL _ _ := SL.of hH (sub_cons (sub_nil _) 1 rfl); refine ⟨hS, ?_⟩
      obtain ⟨A30, c30, rfl⟩ := (hH.row 21 rfl).form
      refine r_take 10 hF rfl rfl rfl (by kernel_rfl) (by kernel_rfl) (by kernel_rfl) (fun _ _ _ h => h) rfl hS (fun w hS => x_assign (hF.tmp 30 rfl)) rfl ?_; clear hF; intro a hF
      refine r_end (by kernel_rfl) ?_; clear hS
      refine hK9 _ _ ?_
      refine wp_seq_k fun khK10 hK10 => ?_
      refine wp_region_lit ?_
      refine l_at hF rfl rfl rfl (x_move (hF.tmp 4 rfl)) ?_; clear hF; intro a hF
      refine wpList_plain rfl fun K hK => ?_
      refine w_call hF (x_enter Tryd.func8 (by kernel_rfl) rfl (by simp only [List.map_toArray, List.map_cons, List.map_nil, hF.tmp 31 rfl] <;> rfl)) (sumB_calls _ (Row.rd (ok' := fun k_ => (fun _ => False) k_ ∨ (.slice A30 ((([] ++ l0) ++ l1) ++ l2).length c30 : Value).ownBlock = some k_) (hH.row 21 rfl) (fun _ hk_ _ => .inl hk_) (fun _ hk_ => .inr hk_))) rfl rfl ?_
      rintro _ w ⟨rfl, hm_⟩; refine ⟨_, rfl, ?_⟩; clear hF; intro a hF; have hH := hH.same hm_
      refine hK _ _ ?_; clear hK K
      refine l_at hF rfl rfl rfl (x_assign (hF.tmp 32 rfl)) ?_; clear hF; intro a hF
      refine wpList_nil ?_
      refine hK10 _ _ ?_
      refine wp_seq_k fun khK11 hK11 => ?_
      refine wp_region_lit ?_
      refine l_at hF rfl rfl rfl (x_iaddr_arr Tryd.underlying29 ty22 (hF.tmp 1 rfl) rfl (by omega) (by omega)) ?_; clear hF; intro a hF
      refine l_at hF rfl rfl rfl (x_load1 ty22 (hF.tmp 33 rfl) (blk_cell (hH.at 1 rfl) _ rfl)) ?_; clear hF; intro a hF
      refine wpList_plain rfl fun K hK => ?_
      refine w_call hF (x_enter Tryd.func8 (by kernel_rfl) rfl (by simp only [List.map_toArray, List.map_cons, List.map_nil, hF.tmp 34 rfl] <;> rfl)) (sumB_calls _ ((hH.rd 903 rfl))) rfl rfl ?_
      rintro _ w ⟨rfl, hm_⟩; refine ⟨_, rfl, ?_⟩; clear hF; intro a hF; have hH := hH.same hm_
      refine hK _ _ ?_; clear hK K
      refine l_at hF rfl rfl rfl (x_assign (hF.tmp 35 rfl)) ?_; clear hF; intro a hF
      refine wpList_nil ?_
      refine hK11 _ _ ?_
      refine wp_seq_k fun khK12 hK12 => ?_
      refine wp_region_lit ?_
      refine l_at hF rfl rfl rfl (x_iaddr_arr Tryd.underlying29 ty22 (hF.tmp 1 rfl) rfl (by omega) (by omega)) ?_; clear hF; intro a hF
      refine l_at hF rfl rfl rfl (x_load1 ty22 (hF.tmp 36 rfl) (blk_cell (hH.at 1 rfl) _ rfl)) ?_; clear hF; intro a hF
      refine wpList_plain rfl fun K hK => ?_
      refine w_call hF (x_enter Tryd.func8 (by kernel_rfl) rfl (by simp only [List.map_toArray, List.map_cons, List.map_nil, hF.tmp 37 rfl] <;> rfl)) (sumB_calls _ ((hH.rd 904 rfl))) rfl rfl ?_
      rintro _ w ⟨rfl, hm_⟩; refine ⟨_, rfl, ?_⟩; clear hF; intro a hF; have hH := hH.same hm_
      refine hK _ _ ?_; clear hK K
      refine l_at hF rfl rfl rfl (x_assign (hF.tmp 38 rfl)) ?_; clear hF; intro a hF
      refine wpList_nil ?_
      refine hK12 _ _ ?_
      refine wp_seq_k fun khK13 hK13 => ?_
      refine wp_region_lit ?_
      refine l_at hF rfl rfl rfl (x_iaddr_arr Tryd.underlying29 ty22 (hF.tmp 1 rfl) rfl (by omega) (by omega)) ?_; clear hF; intro a hF
      refine l_at hF rfl rfl rfl (x_load1 ty22 (hF.tmp 39 rfl) (blk_cell (hH.at 1 rfl) _ rfl)) ?_; clear hF; intro a hF
      refine wpList_plain rfl fun K hK => ?_
      refine w_call hF (x_enter Tryd.func8 (by kernel_rfl) rfl (by simp only [List.map_toArray, List.map_cons, List.map_nil, hF.tmp 40 rfl] <;> rfl)) (sumB_calls _ ((hH.rd 905 rfl))) rfl rfl ?_
      rintro _ w ⟨rfl, hm_⟩; refine ⟨_, rfl, ?_⟩; clear hF; intro a hF; have hH := hH.same hm_
      refine hK _ _ ?_; clear hK K
      refine l_at hF rfl rfl rfl (x_assign (hF.tmp 41 rfl)) ?_; clear hF; intro a hF
      refine wpList_nil ?_
      refine hK13 _ _ ?_
      refine wp_seq_k fun khK14 hK14 => ?_
      refine r_start [(1, .blk b1 (.cells #[.slice A0 l0.length c0, .slice A1 l1.length c1, .slice A2 l2.length c2] 29 (0, 0)))] (by kernel_rfl) hH fun hH => ?_
      have hS : SL [(1, .blk b1 (.cells #[.slice A0 l0.length c0, .slice A1 l1.length c1, .slice A2 l2.length c2] 29 (0, 0)))] _ := SL.of hH (sub_cons (sub_nil _) 1 rfl)
      refine r_take 0 hF rfl rfl rfl (by kernel_rfl) (by kernel_rfl) (by kernel_rfl) (fun _ _ _ h => h) rfl hS (fun w hS => x_move (hF.tmp 6 rfl)) rfl ?_; clear hF; intro a hF
      refine r_take 1 hF rfl rfl rfl (by kernel_rfl) (by kernel_rfl) (by kernel_rfl) (fun _ _ _ h => h) rfl hS (fun w hS => x_move (hF.tmp 7 rfl)) rfl ?_; clear hF; intro a hF
      refine r_take 2 hF rfl rfl rfl (by kernel_rfl) (by kernel_rfl) (by kernel_rfl) (fun _ _ _ h => h) rfl hS (fun w hS => x_iaddr_arr Tryd.underlying29 ty22 (hF.tmp 1 rfl) rfl (by omega) (by omega)) rfl ?_; clear hF; intro a hF
      refine r_take 3 hF rfl rfl rfl (by kernel_rfl) (by kernel_rfl) (by kernel_rfl) (fun _ _ _ h => h) rfl hS (fun w hS => x_load1 ty22 (hF.tmp 44 rfl) (blk_cell (SL.at_ hS 1 rfl) _ rfl)) rfl ?_; clear hF; intro a hF
      refine r_take 4 hF rfl rfl rfl (by kernel_rfl) (by kernel_rfl) (by kernel_rfl) (fun _ _ _ h => h) rfl hS (fun w hS => x_len_slice Tryd.underlying22 (hF.tmp 45 rfl)) rfl ?_; clear hF; intro a hF
      refine r_take 6 hF rfl rfl rfl (by kernel_rfl) (by kernel_rfl) (by kernel_rfl) (fun _ _ _ h => h) rfl hS (fun w hS => x_move (hF.tmp 8 rfl)) rfl ?_; clear hF; intro a hF
      refine r_take 7 hF rfl rfl rfl (by kernel_rfl) (by kernel_rfl) (by kernel_rfl) (fun _ _ _ h => h) rfl hS (fun w hS => x_iaddr_arr Tryd.underlying29 ty22 (hF.tmp 1 rfl) rfl (by omega) (by omega)) rfl ?_; clear hF; intro a hF
      refine r_take 8 hF rfl rfl rfl (by kernel_rfl) (by kernel_rfl) (by kernel_rfl) (fun _ _ _ h => h) rfl hS (fun w hS => x_load1 ty22 (hF.tmp 49 rfl) (blk_cell (SL.at_ hS 1 rfl) _ rfl)) rfl ?_; clear hF; intro a hF
      refine r_take 9 hF rfl rfl rfl (by kernel_rfl) (by kernel_rfl) (by kernel_rfl) (fun _ _ _ h => h) rfl hS (fun w hS => x_len_slice Tryd.underlying22 (hF.tmp 50 rfl)) rfl ?_; clear hF; intro a hF
      refine r_do 5 rfl (by kernel_rfl) rfl rfl ?_
      refine w_call hF (x_enter Tryd.func12 (by kernel_rfl) rfl (by simp only [List.map_toArray, List.map_cons, List.map_nil, hF.tmp 42 rfl, hF.tmp 43 rfl, hF.tmp 46 rfl] <;> rfl)) (join_calls _ (moreB 0#32 (l0.map bv)) (moreB 0#32 (l1.map bv)) ((l1.length : Int)) (hH.rd 902 rfl)) rfl rfl ?_
      rintro _ w ⟨rfl, hm_⟩; refine ⟨_, rfl, ?_⟩; clear hF; intro a hF; have hH := hH.same hm_
      clear hS; have hS : SL _ _ := SL.of hH (sub_cons (sub_nil _) 1 rfl); refine ⟨hS, ?_⟩
      refine r_do 10 rfl (by kernel_rfl) rfl rfl ?_
      refine w_call hF (x_enter Tryd.func12 (by kernel_rfl) rfl (by simp only [List.map_toArray, List.map_cons, List.map_nil, hF.tmp 47 rfl, hF.tmp 48 rfl, hF.tmp 51 rfl] <;> rfl)) (join_calls _ (joinB (moreB 0#32 (l0.map bv)) (moreB 0#32 (l1.map bv)) ((l1.length : Int)).toNat) (moreB 0#32 (l2.map bv)) ((l2.length : Int)) (hH.rd 902 rfl)) rfl rfl ?_
      rintro _ w ⟨rfl, hm_⟩; refine ⟨_, rfl, ?_⟩; clear hF; intro a hF; have hH := hH.same hm_
      clear hS; have hS : SL _ _ := SL.of hH (sub_cons (sub_nil _) 1 rfl); refine ⟨hS, ?_⟩
      refine r_take 11 hF rfl rfl rfl (by kernel_rfl) (by kernel_rfl) (by kernel_rfl) (fun _ _ _ h => h) rfl hS (fun w hS => x_assign (hF.tmp 52 rfl)) rfl ?_; clear hF; intro a hF
      refine r_end (by kernel_rfl) ?_; clear hS
      refine hK14 _ _ ?_
      refine wp_seq_k fun khK15 hK15 => ?_
      refine r_start [(1, .blk b1 (.cells #[.slice A0 l0.length c0, .slice A1 l1.length c1, .slice A2 l2.length c2] 29 (0, 0)))] (by kernel_rfl) hH fun hH => ?_
      have hS : SL [(1, .blk b1 (.cells #[.slice A0 l0.length c0, .slice A1 l1.length c1, .slice A2 l2.length c2] 29 (0, 0)))] _ := SL.of hH (sub_cons (sub_nil _) 1 rfl)
      refine r_take 0 hF rfl rfl rfl (by kernel_rfl) (by kernel_rfl) (by kernel_rfl) (fun _ _ _ h => h) rfl hS (fun w hS => x_move (hF.tmp 6 rfl)) rfl ?_; clear hF; intro a hF
      refine r_take 1 hF rfl rfl rfl (by kernel_rfl) (by kernel_rfl) (by kernel_rfl) (fun _ _ _ h => h) rfl hS (fun w hS => x_move (hF.tmp 7 rfl)) rfl ?_; clear hF; intro a hF
      refine r_take 2 hF rfl rfl rfl (by kernel_rfl) (by kernel_rfl) (by kernel_rfl) (fun _ _ _ h => h) rfl hS (fun w hS => x_move (hF.tmp 8 rfl)) rfl ?_; clear hF; intro a hF
      refine r_take 3 hF rfl rfl rfl (by kernel_rfl) (by kernel_rfl) (by kernel_rfl) (fun _ _ _ h => h) rfl hS (fun w hS => x_iaddr_arr Tryd.underlying29 ty22 (hF.tmp 1 rfl) rfl (by omega) (by omega)) rfl ?_; clear hF; intro a hF
      refine r_take 4 hF rfl rfl rfl (by kernel_rfl) (by kernel_rfl) (by kernel_rfl) (fun _ _ _ h => h) rfl hS (fun w hS => x_load1 ty22 (hF.tmp 56 rfl) (blk_cell (SL.at_ hS 1 rfl) _ rfl)) rfl ?_; clear hF; intro a hF
      refine r_take 5 hF rfl rfl rfl (by kernel_rfl) (by kernel_rfl) (by kernel_rfl) (fun _ _ _ h => h) rfl hS (fun w hS => x_len_slice Tryd.underlying22 (hF.tmp 57 rfl)) rfl ?_; clear hF; intro a hF
      refine r_take 7 hF rfl rfl rfl (by kernel_rfl) (by kernel_rfl) (by kernel_rfl) (fun _ _ _ h => h) rfl hS (fun w hS => x_iaddr_arr Tryd.underlying29 ty22 (hF.tmp 1 rfl) rfl (by omega) (by omega)) rfl ?_; clear hF; intro a hF
      refine r_take 8 hF rfl rfl rfl (by kernel_rfl) (by kernel_rfl) (by kernel_rfl) (fun _ _ _ h => h) rfl hS (fun w hS => x_load1 ty22 (hF.tmp 60 rfl) (blk_cell (SL.at_ hS 1 rfl) _ rfl)) rfl ?_; clear hF; intro a hF
      refine r_take 9 hF rfl rfl rfl (by kernel_rfl) (by kernel_rfl) (by kernel_rfl) (fun _ _ _ h => h) rfl hS (fun w hS => x_len_slice Tryd.underlying22 (hF.tmp 61 rfl)) rfl ?_; clear hF; intro a hF
      refine r_take 10 hF rfl rfl rfl (by kernel_rfl) (by kernel_rfl) (by kernel_rfl) (fun _ _ _ h => h) rfl hS (fun w hS => x_iaddr_arr Tryd.underlying29 ty22 (hF.tmp 1 rfl) rfl (by omega) (by omega)) rfl ?_; clear hF; intro a hF
      refine r_take 11 hF rfl rfl rfl (by kernel_rfl) (by kernel_rfl) (by kernel_rfl) (fun _ _ _ h => h) rfl hS (fun w hS => x_load1 ty22 (hF.tmp 63 rfl) (blk_cell (SL.at_ hS 1 rfl) _ rfl)) rfl ?_; clear hF; intro a hF
      refine r_take 12 hF rfl rfl rfl (by kernel_rfl) (by kernel_rfl) (by kernel_rfl) (fun _ _ _ h => h) rfl hS (fun w hS => x_len_slice Tryd.underlying22 (hF.tmp 64 rfl)) rfl ?_; clear hF; intro a hF
      refine r_take 13 hF rfl rfl rfl (by kernel_rfl) (by kernel_rfl) (by kernel_rfl) (fun _ _ _ h => h) rfl hS (fun w hS => x_add (hF.tmp 62 rfl) (hF.tmp 65 rfl) (w64 (by omega) (by omega))) rfl ?_; clear hF; intro a hF
      refine r_do 6 rfl (by kernel_rfl) rfl rfl ?_
      refine w_call hF (x_enter Tryd.func12 (by kernel_rfl) rfl (by simp only [List.map_toArray, List.map_cons, List.map_nil, hF.tmp 54 rfl, hF.tmp 55 rfl, hF.tmp 58 rfl] <;> rfl)) (join_calls _ (moreB 0#32 (l1.map bv)) (moreB 0#32 (l2.map bv)) ((l2.length : Int)) (hH.rd 902 rfl)) rfl rfl ?_
      rintro _ w ⟨rfl, hm_⟩; refine ⟨_, rfl, ?_⟩; clear hF; intro a hF; have hH := hH.same hm_
      clear hS; have hS : SL _ _ := SL.of hH (sub_cons (sub_nil _) 1 rfl); refine ⟨hS, ?_⟩
      refine r_do 14 rfl (by kernel_rfl) rfl rfl ?_
      refine w_call hF (x_enter Tryd.func12 (by kernel_rfl) rfl (by simp only [List.map_toArray, List.map_cons, List.map_nil, hF.tmp 53 rfl, hF.tmp 59 rfl, hF.tmp 66 rfl] <;> rfl)) (join_calls _ (moreB 0#32 (l0.map bv)) (joinB (moreB 0#32 (l1.map bv)) (moreB 0#32 (l2.map bv)) ((l2.length : Int)).toNat) (((l1.length : Int) + (l2.length : Int))) (hH.rd 902 rfl)) rfl rfl ?_
      rintro _ w ⟨rfl, hm_⟩; refine ⟨_, rfl, ?_⟩; clear hF; intro a hF; have hH := hH.same hm_
      clear hS; have hS : SL _ _ := SL.of hH (sub_cons (sub_nil _) 1 rfl); refine ⟨hS, ?_⟩
      refine r_take 15 hF rfl rfl rfl (by kernel_rfl) (by kernel_rfl) (by kernel_rfl) (fun _ _ _ h => h) rfl hS (fun w hS => x_assign (hF.tmp 67 rfl)) rfl ?_; clear hF; intro a hF
      refine r_end (by kernel_rfl) ?_; clear hS
      refine hK15 _ _ ?_
      refine wp_seq_k fun khK16 hK16 => ?_
      refine r_start [(1, .blk b1 (.cells #[.slice A0 l0.length c0, .slice A1 l1.length c1, .slice A2 l2.length c2] 29 (0, 0)))] (by kernel_rfl) hH fun hH => ?_
      have hS : SL [(1, .blk b1 (.cells #[.slice A0 l0.length c0, .slice A1 l1.length c1, .slice A2 l2.length c2] 29 (0, 0)))] _ := SL.of hH (sub_cons (sub_nil _) 1 rfl)
      refine r_do 0 rfl (by kernel_rfl) rfl rfl ?_
      refine w_call hF (x_enter Tryd.func6 (by kernel_rfl) rfl (by simp only [List.map_toArray, List.map_cons, List.map_nil] <;> rfl)) (alive_calls _) rfl rfl ?_
      rintro _ w ⟨rfl, hm_⟩; refine ⟨_, rfl, ?_⟩; clear hF; intro a hF; have hH := hH.same hm_
      clear hS; have hS : SL _ _ := SL.of hH (sub_cons (sub_nil _) 1 rfl); refine ⟨hS, ?_⟩
      refine r_take 1 hF rfl rfl rfl (by kernel_rfl) (by kernel_rfl) (by kernel_rfl) (fun _ _ _ h => h) rfl hS (fun w hS => x_move (hF.tmp 68 rfl)) rfl ?_; clear hF; intro a hF
      refine r_take 2 hF rfl rfl rfl (by kernel_rfl) (by kernel_rfl) (by kernel_rfl) (fun _ _ _ h => h) ((wanted_of hF rfl rfl rfl rfl).trans rfl) hS (fun w hS => x_move (hF.tmp 6 rfl)) rfl ?_; clear hF; intro a hF
      refine r_take 3 hF rfl rfl rfl (by kernel_rfl) (by kernel_rfl) (by kernel_rfl) (fun _ _ _ h => h) ((wanted_of hF rfl rfl rfl rfl).trans rfl) hS (fun w hS => x_iaddr_arr Tryd.underlying29 ty22 (hF.tmp 1 rfl) rfl (by omega) (by omega)) rfl ?_; clear hF; intro a hF
      refine r_take 4 hF rfl rfl rfl (by kernel_rfl) (by kernel_rfl) (by kernel_rfl) (fun _ _ _ h => h) ((wanted_of hF rfl rfl rfl rfl).trans rfl) hS (fun w hS => x_load1 ty22 (hF.tmp 71 rfl) (blk_cell (SL.at_ hS 1 rfl) _ rfl)) rfl ?_; clear hF; intro a hF
      refine r_take 6 hF rfl rfl rfl (by kernel_rfl) (by kernel_rfl) (by kernel_rfl) (fun _ _ _ h => h) ((wanted_of hF rfl rfl rfl rfl).trans rfl) hS (fun w hS => x_iaddr_arr Tryd.underlying29 ty22 (hF.tmp 1 rfl) rfl (by omega) (by omega)) rfl ?_; clear hF; intro a hF
      refine r_take 7 hF rfl rfl rfl (by kernel_rfl) (by kernel_rfl) (by kernel_rfl) (fun _ _ _ h => h) ((wanted_of hF rfl rfl rfl rfl).trans rfl) hS (fun w hS => x_load1 ty22 (hF.tmp 74 rfl) (blk_cell (SL.at_ hS 1 rfl) _ rfl)) rfl ?_; clear hF; intro a hF
      refine r_take 9 hF rfl rfl rfl (by kernel_rfl) (by kernel_rfl) (by kernel_rfl) (fun _ _ _ h => h) ((wanted_of hF rfl rfl rfl rfl).trans rfl) hS (fun w hS => x_move (hF.tmp 5 rfl)) rfl ?_; clear hF; intro a hF
      refine r_do 5 rfl (by kernel_rfl) ((wanted_of hF rfl rfl rfl rfl).trans rfl) rfl ?_
      refine w_call hF (x_enter Tryd.func10 (by kernel_rfl) rfl (by simp only [List.map_toArray, List.map_cons, List.map_nil, hF.tmp 70 rfl, hF.tmp 72 rfl] <;> rfl)) (moreB_calls _ (moreB 0#32 (l0.map bv)) ((hH.rd 904 rfl))) rfl rfl ?_
      rintro _ w ⟨rfl, hm_⟩; refine ⟨_, rfl, ?_⟩; clear hF; intro a hF; have hH := hH.same hm_
      clear hS; have hS : SL _ _ := SL.of hH (sub_cons (sub_nil _) 1 rfl); refine ⟨hS, ?_⟩
      refine r_do 8 rfl (by kernel_rfl) ((wanted_of hF rfl rfl rfl rfl).trans rfl) rfl ?_
      refine w_call hF (x_enter Tryd.func10 (by kernel_rfl) rfl (by simp only [List.map_toArray, List.map_cons, List.map_nil, hF.tmp 73 rfl, hF.tmp 75 rfl] <;> rfl)) (moreB_calls _ (moreB (moreB 0#32 (l0.map bv)) (l1.map bv)) ((hH.rd 905 rfl))) rfl rfl ?_
      rintro _ w ⟨rfl, hm_⟩; refine ⟨_, rfl, ?_⟩; clear hF; intro a hF; have hH := hH.same hm_
      clear hS; have hS : SL _ _ := SL.of hH (sub_cons (sub_nil _) 1 rfl); refine ⟨hS, ?_⟩
      refine r_take 10 hF rfl rfl rfl (by kernel_rfl) (by kernel_rfl) (by kernel_rfl) (fun _ _ _ h => h) ((wanted_of hF rfl rfl rfl rfl).trans rfl) hS (fun w hS => x_eql (hF.tmp 76 rfl) (hF.tmp 77 rfl)) rfl ?_; clear hF; intro a hF
      rw [decide_eq_true (by rw [more_more, more_more]; simp [List.map_append])] at hF
      refine r_take 11 hF rfl rfl rfl (by kernel_rfl) (by kernel_rfl) (by kernel_rfl) (fun _ _ _ h => h) rfl hS (fun w hS => x_pickT (hF.tmp 69 rfl) rfl (hF.tmp 78 rfl)) rfl ?_; clear hF; intro a hF
      refine r_take 12 hF rfl rfl rfl (by kernel_rfl) (by kernel_rfl) (by kernel_rfl) (fun _ _ _ h => h) rfl hS (fun w hS => x_move (hF.tmp 79 rfl)) rfl ?_; clear hF; intro a hF
      refine r_take 13 hF rfl rfl rfl (by kernel_rfl) (by kernel_rfl) (by kernel_rfl) (fun _ _ _ h => h) ((wanted_of hF rfl rfl rfl rfl).trans rfl) hS (fun w hS => x_move (hF.tmp 9 rfl)) rfl ?_; clear hF; intro a hF
      refine r_take 14 hF rfl rfl rfl (by kernel_rfl) (by kernel_rfl) (by kernel_rfl) (fun _ _ _ h => h) ((wanted_of hF rfl rfl rfl rfl).trans rfl) hS (fun w hS => x_move (hF.tmp 5 rfl)) rfl ?_; clear hF; intro a hF
      refine r_take 15 hF rfl rfl rfl (by kernel_rfl) (by kernel_rfl) (by kernel_rfl) (fun _ _ _ h => h) ((wanted_of hF rfl rfl rfl rfl).trans rfl) hS (fun w hS => x_eql (hF.tmp 81 rfl) (hF.tmp 82 rfl)) rfl ?_; clear hF; intro a hF
      rw [decide_eq_true (by rw [show ((l1.length : Int)).toNat = (l1.map bv).length by simp, show ((l2.length : Int)).toNat = (l2.map bv).length by simp, join_law, join_law]; simp [List.map_append])] at hF
      refine r_take 16 hF rfl rfl rfl (by kernel_rfl) (by kernel_rfl) (by kernel_rfl) (fun _ _ _ h => h) rfl hS (fun w hS => x_pickT (hF.tmp 80 rfl) rfl (hF.tmp 83 rfl)) rfl ?_; clear hF; intro a hF
      refine r_take 17 hF rfl rfl rfl (by kernel_rfl) (by kernel_rfl) (by kernel_rfl) (fun _ _ _ h => h) rfl hS (fun w hS => x_move (hF.tmp 84 rfl)) rfl ?_; clear hF; intro a hF
      refine r_take 18 hF rfl rfl rfl (by kernel_rfl) (by kernel_rfl) (by kernel_rfl) (fun _ _ _ h => h) ((wanted_of hF rfl rfl rfl rfl).trans rfl) hS (fun w hS => x_move (hF.tmp 10 rfl)) rfl ?_; clear hF; intro a hF
      refine r_take 19 hF rfl rfl rfl (by kernel_rfl) (by kernel_rfl) (by kernel_rfl) (fun _ _ _ h => h) ((wanted_of hF rfl rfl rfl rfl).trans rfl) hS (fun w hS => x_move (hF.tmp 5 rfl)) rfl ?_; clear hF; intro a hF
      refine r_take 20 hF rfl rfl rfl (by kernel_rfl) (by kernel_rfl) (by kernel_rfl) (fun _ _ _ h => h) ((wanted_of hF rfl rfl rfl rfl).trans rfl) hS (fun w hS => x_eql (hF.tmp 86 rfl) (hF.tmp 87 rfl)) rfl ?_; clear hF; intro a hF
      rw [decide_eq_true (by rw [show ((l2.length : Int)).toNat = (l2.map bv).length by simp, join_law, show ((l1.length : Int) + (l2.length : Int)).toNat = (l1.map bv ++ l2.map bv).length by simp; omega, join_law]; simp [List.map_append])] at hF
      refine r_take 21 hF rfl rfl rfl (by kernel_rfl) (by kernel_rfl) (by kernel_rfl) (fun _ _ _ h => h) rfl hS (fun w hS => x_pickT (hF.tmp 85 rfl) rfl (hF.tmp 88 rfl)) rfl ?_; clear hF; intro a hF
      refine r_take 22 hF rfl rfl rfl (by kernel_rfl) (by kernel_rfl) (by kernel_rfl) (fun _ _ _ h => h) rfl hS (fun w hS => x_assign (hF.tmp 89 rfl)) rfl ?_; clear hF; intro a hF
      refine r_end (by kernel_rfl) ?_; clear hS
      refine hK16 _ _ ?_
      refine wp_ret ?_
      try simp only [Exit.then, Exit.inBlock]
      exact fin_ret hF (res1 hF rfl rfl) ⟨rfl, hH.mods⟩

end Go.Proofs.YtjcpjkdadigkpaaDoor.Crc
