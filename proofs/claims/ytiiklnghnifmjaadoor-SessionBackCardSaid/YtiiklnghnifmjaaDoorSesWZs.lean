/- A request's transaction, the law. -/
import Derived.Test.YtiiklnghnifmjaaDoorSesAZs
import Derived.Test.YtiiklnghnifmjaaDoorSamDZs
import Derived.Test.YtiiklnghnifmjaaDoorSeWZs
set_option linter.unusedVariables false
set_option linter.unusedSimpArgs false
namespace Go.Proofs.YtiiklnghnifmjaaDoor.Act
open Go.RowKit Go.Proofs.YtiiklnghnifmjaaDoor.Sx Go.Proofs.YtiiklnghnifmjaaDoor.Cod Go.Proofs.YtiiklnghnifmjaaDoor.Num
set_option maxRecDepth 100000 in
set_option maxHeartbeats 1000000 in
theorem r9same_calls (w0 : World) {ok1 : Nat → Prop} {A1 : Option Addr} {xs1 : List StepD} {c1 : Nat} (hr1 : Rd StE w0 ok1 A1 xs1 c1) {ok2 : Nat → Prop} {A2 : Option Addr} {xs2 : List StepD} {c2 : Nat} (hr2 : Rd StE w0 ok2 A2 xs2 c2) (hb1 : ∀ s ∈ xs1, StepB s) (hb2 : ∀ s ∈ xs2, StepB s) : Calls Tryd.prog 105 #[.slice A1 xs1.length c1, .slice A2 xs2.length c2] w0 fun e w' => e = .returned (.bool (decide (xs1 = xs2))) ∧ Mods (fun _ => False) w0 w' := by
 refine calls_of_wp Tryd.func105 rfl ?_
 have hF := Fr.enter #[.slice A1 xs1.length c1, .slice A2 xs2.length c2] 26 (slotsOf [.slice A1 xs1.length c1, .slice A2 xs2.length c2] 0) (Nat.le_of_ble_eq_true rfl) (fun i v h => by have h2 := (get_slotsOf _ 0 i v h).2; simpa only [List.getElem?_toArray, Nat.sub_zero] using h2)
 have hH := Hp.nil (fun _ => False) w0
 rw [Tryd.ntmps105]
 revert hF; generalize (⟨(#[.slice A1 xs1.length c1, .slice A2 xs2.length c2] : Array Value) ++ Array.replicate (26 - (#[.slice A1 xs1.length c1, .slice A2 xs2.length c2] : Array Value).size) undef, []⟩ : Act) = a; intro hF
 have hH := hH.arg 901 hr1.all (fun _ h => ⟨h, fun h => h⟩)
 have hle901 := hr1.le; unfold maxLen at hle901
 have hH := hH.arg 902 hr2.all (fun _ h => ⟨h, fun h => h⟩)
 have hle902 := hr2.le; unfold maxLen at hle902
 refine wp_seq_k fun khK1 hK1 => ?_
 refine wp_region_lit ?_
 refine l_at hF rfl rfl rfl (x_assign rfl) ?_; clear hF; intro a hF
 refine wpList_nil ?_
 refine hK1 _ _ ?_
 refine wp_seq_k fun khK2 hK2 => ?_
 refine wp_seq_k fun khK3 hK3 => ?_
 refine wp_region_lit ?_
 refine l_at hF rfl rfl rfl (x_move (hF.tmp 0 rfl)) ?_; clear hF; intro a hF
 refine l_at hF rfl rfl rfl (x_len_slice Tryd.underlying37 (hF.tmp 6 rfl)) ?_; clear hF; intro a hF
 refine l_at hF rfl rfl rfl (x_move (hF.tmp 1 rfl)) ?_; clear hF; intro a hF
 refine l_at hF rfl rfl rfl (x_len_slice Tryd.underlying37 (hF.tmp 8 rfl)) ?_; clear hF; intro a hF
 refine l_at hF rfl rfl rfl (x_neq (hF.tmp 7 rfl) (hF.tmp 9 rfl)) ?_; clear hF; intro a hF
 refine wpList_nil ?_
 refine hK3 _ _ ?_
 refine wp_cond_split (hF.tmp 10 rfl) (fun hc10 => ?_) (fun hc10 => ?_)
 ·have hk10_1 := hc10; try simp only [Bool.or_eq_true, Bool.and_eq_true, Bool.or_eq_false_iff, Bool.and_eq_false_iff, Bool.not_eq_true', Bool.not_eq_false', decide_eq_true_eq, decide_eq_false_iff_not, Bool.not_true, Bool.not_false] at hc10
  have hz := same_len (xs := xs1) (ys := xs2) (by omega)
  refine wp_seq_k fun khK4 hK4 => ?_
  refine wp_region_lit ?_
  refine l_at hF rfl rfl rfl (x_assign rfl) ?_; clear hF; intro a hF
  refine wpList_nil ?_
  refine hK4 _ _ ?_
  refine wp_ret ?_
  try simp only [Exit.then, Exit.inBlock]
  exact fin_ret hF (res1 hF rfl rfl) ⟨by rw [hz] <;> rfl, hH.mods⟩
 ·have hk10_2 := hc10; try simp only [Bool.or_eq_true, Bool.and_eq_true, Bool.or_eq_false_iff, Bool.and_eq_false_iff, Bool.not_eq_true', Bool.not_eq_false', decide_eq_true_eq, decide_eq_false_iff_not, Bool.not_true, Bool.not_false] at hc10
  have hll : (xs1.length : Int) = xs2.length := by omega
  refine wp_skip ?_
  refine hK2 _ _ ?_
  refine wp_seq_k fun khK5 hK5 => ?_
  refine wp_seq_k fun khK6 hK6 => ?_
  refine wp_region_lit ?_
  refine l_at hF rfl rfl rfl (x_assign rfl) ?_; clear hF; intro a hF
  refine wpList_nil ?_
  refine hK6 _ _ ?_
  refine wp_block ?_
  refine wp_loop_ghost (fun n_ a w => ∃ k : Nat, n_ = xs1.length - k ∧ (k ≤ xs1.length) ∧ (xs1.take k = xs2.take k) ∧ Fr 26 a [(0, .slice A1 xs1.length c1), (1, .slice A2 xs2.length c2), (5, .int .i64 (k : Int))] ∧ Hp (fun _ => False) w0 w [(901, .rd_ StE A1 xs1 c1 (fun k => k < w0.heap.size)), (902, .rd_ StE A2 xs2 c2 (fun k => k < w0.heap.size))]) (xs1.length) ?_ ?_
  ·exact ⟨0, rfl, by omega, rfl, (((hF.bare.add hF 5 rfl).add hF 1 rfl).add hF 0 rfl), hH.sub _ (sub_cons (sub_cons (sub_nil _) 902 rfl) 901 rfl)⟩
  ·rintro _ a w ⟨k, rfl, hq0_0, hq0_1, hF, hH⟩
   refine wp_seq_k fun khK7 hK7 => ?_
   refine wp_seq_k fun khK8 hK8 => ?_
   refine wp_region_lit ?_
   refine l_at hF rfl rfl rfl (x_move (hF.tmp 5 rfl)) ?_; clear hF; intro a hF
   refine l_at hF rfl rfl rfl (x_move (hF.tmp 0 rfl)) ?_; clear hF; intro a hF
   refine l_at hF rfl rfl rfl (x_len_slice Tryd.underlying37 (hF.tmp 12 rfl)) ?_; clear hF; intro a hF
   refine l_at hF rfl rfl rfl (x_lss (hF.tmp 11 rfl) (hF.tmp 13 rfl)) ?_; clear hF; intro a hF
   refine wpList_nil ?_
   refine hK8 _ _ ?_
   refine wp_cond_split (hF.tmp 14 rfl) (fun hc14 => ?_) (fun hc14 => ?_)
   ·have hk14_3 := hc14; try simp only [Bool.or_eq_true, Bool.and_eq_true, Bool.or_eq_false_iff, Bool.and_eq_false_iff, Bool.not_eq_true', Bool.not_eq_false', decide_eq_true_eq, decide_eq_false_iff_not, Bool.not_true, Bool.not_false] at hc14
    obtain ⟨hf1_0, hf1_1, hf1_2, hf1_3, hfw1⟩ := rd_st ((hH.rd 901 rfl)) (gst_some (xs := xs1) (i := (k : Int)) (by omega) (by omega))
    have hH := hH.subcels 901 rfl 1499 hfw1 (Rd.inok ((hH.rd 901 rfl)) (by omega) _)
    have hH := hH.subcel 901 rfl 1500 hf1_0 (Rd.inok ((hH.rd 901 rfl)) (by omega) _)
    have hH := hH.subcel 901 rfl 1501 hf1_1 (Rd.inok ((hH.rd 901 rfl)) (by omega) _)
    have hH := hH.subcel 901 rfl 1502 hf1_2 (Rd.inok ((hH.rd 901 rfl)) (by omega) _)
    have hH := hH.subcel 901 rfl 1503 hf1_3 (Rd.inok ((hH.rd 901 rfl)) (by omega) _)
    obtain ⟨hf2_0, hf2_1, hf2_2, hf2_3, hfw2⟩ := rd_st ((hH.rd 902 rfl)) (gst_some (xs := xs2) (i := (k : Int)) (by omega) (by omega))
    have hH := hH.subcels 902 rfl 2499 hfw2 (Rd.inok ((hH.rd 902 rfl)) (by omega) _)
    have hH := hH.subcel 902 rfl 2500 hf2_0 (Rd.inok ((hH.rd 902 rfl)) (by omega) _)
    have hH := hH.subcel 902 rfl 2501 hf2_1 (Rd.inok ((hH.rd 902 rfl)) (by omega) _)
    have hH := hH.subcel 902 rfl 2502 hf2_2 (Rd.inok ((hH.rd 902 rfl)) (by omega) _)
    have hH := hH.subcel 902 rfl 2503 hf2_3 (Rd.inok ((hH.rd 902 rfl)) (by omega) _)
    have hm1 := gst_mem (xs := xs1) (j := k) (by omega)
    have hm2 := gst_mem (xs := xs2) (j := k) (by omega)
    refine wp_skip ?_
    refine hK7 _ _ ?_
    refine wp_seq_k fun khK9 hK9 => ?_
    refine wp_block ?_
    refine wp_seq_k fun khK10 hK10 => ?_
    refine r_start [(901, .rd_ StE A1 xs1 c1 (fun k => k < w0.heap.size)), (902, .rd_ StE A2 xs2 c2 (fun k => k < w0.heap.size)), (1499, .cels (adr A1 (Int.toNat (k : Int) * 4)) #[.int .i64 (gst xs1 (k : Int)).1, .string (strOfNums (gst xs1 (k : Int)).2.1), .string (strOfNums (gst xs1 (k : Int)).2.2.1), .int .i64 (gst xs1 (k : Int)).2.2.2]), (1500, .cel (adr A1 (Int.toNat (k : Int) * 4)) (.int .i64 (gst xs1 (k : Int)).1)), (1501, .cel (adr A1 (Int.toNat (k : Int) * 4 + 1)) (.string (strOfNums (gst xs1 (k : Int)).2.1))), (1502, .cel (adr A1 (Int.toNat (k : Int) * 4 + 2)) (.string (strOfNums (gst xs1 (k : Int)).2.2.1))), (1503, .cel (adr A1 (Int.toNat (k : Int) * 4 + 3)) (.int .i64 (gst xs1 (k : Int)).2.2.2)), (2499, .cels (adr A2 (Int.toNat (k : Int) * 4)) #[.int .i64 (gst xs2 (k : Int)).1, .string (strOfNums (gst xs2 (k : Int)).2.1), .string (strOfNums (gst xs2 (k : Int)).2.2.1), .int .i64 (gst xs2 (k : Int)).2.2.2]), (2500, .cel (adr A2 (Int.toNat (k : Int) * 4)) (.int .i64 (gst xs2 (k : Int)).1)), (2501, .cel (adr A2 (Int.toNat (k : Int) * 4 + 1)) (.string (strOfNums (gst xs2 (k : Int)).2.1))), (2502, .cel (adr A2 (Int.toNat (k : Int) * 4 + 2)) (.string (strOfNums (gst xs2 (k : Int)).2.2.1))), (2503, .cel (adr A2 (Int.toNat (k : Int) * 4 + 3)) (.int .i64 (gst xs2 (k : Int)).2.2.2))] (by kernel_rfl) hH fun hH => ?_
    have hS : SL [(901, .rd_ StE A1 xs1 c1 (fun k => k < w0.heap.size)), (902, .rd_ StE A2 xs2 c2 (fun k => k < w0.heap.size)), (1499, .cels (adr A1 (Int.toNat (k : Int) * 4)) #[.int .i64 (gst xs1 (k : Int)).1, .string (strOfNums (gst xs1 (k : Int)).2.1), .string (strOfNums (gst xs1 (k : Int)).2.2.1), .int .i64 (gst xs1 (k : Int)).2.2.2]), (1500, .cel (adr A1 (Int.toNat (k : Int) * 4)) (.int .i64 (gst xs1 (k : Int)).1)), (1501, .cel (adr A1 (Int.toNat (k : Int) * 4 + 1)) (.string (strOfNums (gst xs1 (k : Int)).2.1))), (1502, .cel (adr A1 (Int.toNat (k : Int) * 4 + 2)) (.string (strOfNums (gst xs1 (k : Int)).2.2.1))), (1503, .cel (adr A1 (Int.toNat (k : Int) * 4 + 3)) (.int .i64 (gst xs1 (k : Int)).2.2.2)), (2499, .cels (adr A2 (Int.toNat (k : Int) * 4)) #[.int .i64 (gst xs2 (k : Int)).1, .string (strOfNums (gst xs2 (k : Int)).2.1), .string (strOfNums (gst xs2 (k : Int)).2.2.1), .int .i64 (gst xs2 (k : Int)).2.2.2]), (2500, .cel (adr A2 (Int.toNat (k : Int) * 4)) (.int .i64 (gst xs2 (k : Int)).1)), (2501, .cel (adr A2 (Int.toNat (k : Int) * 4 + 1)) (.string (strOfNums (gst xs2 (k : Int)).2.1))), (2502, .cel (adr A2 (Int.toNat (k : Int) * 4 + 2)) (.string (strOfNums (gst xs2 (k : Int)).2.2.1))), (2503, .cel (adr A2 (Int.toNat (k : Int) * 4 + 3)) (.int .i64 (gst xs2 (k : Int)).2.2.2))] _ := SL.of hH (sub_cons (sub_cons (sub_cons (sub_cons (sub_cons (sub_cons (sub_cons (sub_cons (sub_cons (sub_cons (sub_cons (sub_cons (sub_nil _) 2503 rfl) 2502 rfl) 2501 rfl) 2500 rfl) 2499 rfl) 1503 rfl) 1502 rfl) 1501 rfl) 1500 rfl) 1499 rfl) 902 rfl) 901 rfl)
    refine r_take 0 hF rfl rfl rfl (by kernel_rfl) (by kernel_rfl) (by kernel_rfl) (fun _ _ _ h => h) rfl hS (fun w hS => x_move (hF.tmp 0 rfl)) rfl ?_; clear hF; intro a hF
    refine r_take 1 hF rfl rfl rfl (by kernel_rfl) (by kernel_rfl) (by kernel_rfl) (fun _ _ _ h => h) rfl hS (fun w hS => x_move (hF.tmp 5 rfl)) rfl ?_; clear hF; intro a hF
    refine r_take 2 hF rfl rfl rfl (by kernel_rfl) (by kernel_rfl) (by kernel_rfl) (fun _ _ _ h => h) rfl hS (fun w hS => x_iaddr_A Tryd.underlying37 ty53 ((hH.rd 901 rfl)) (hF.tmp 17 rfl) (hF.tmp 18 rfl) (by omega) (by omega) _) rfl ?_; clear hF; intro a hF
    refine r_take 3 hF rfl rfl rfl (by kernel_rfl) (by kernel_rfl) (by kernel_rfl) (fun _ _ _ h => h) rfl hS (fun w hS => x_loadn ty53 (hF.tmp 19 rfl) rfl (hS 1499 _ rfl)) rfl ?_; clear hF; intro a hF
    refine r_take 4 hF rfl rfl rfl (by kernel_rfl) (by kernel_rfl) (by kernel_rfl) (fun _ _ _ h => h) rfl hS (fun w hS => x_move (hF.tmp 1 rfl)) rfl ?_; clear hF; intro a hF
    refine r_take 5 hF rfl rfl rfl (by kernel_rfl) (by kernel_rfl) (by kernel_rfl) (fun _ _ _ h => h) rfl hS (fun w hS => x_move (hF.tmp 5 rfl)) rfl ?_; clear hF; intro a hF
    refine r_take 6 hF rfl rfl rfl (by kernel_rfl) (by kernel_rfl) (by kernel_rfl) (fun _ _ _ h => h) rfl hS (fun w hS => x_iaddr_A Tryd.underlying37 ty53 ((hH.rd 902 rfl)) (hF.tmp 21 rfl) (hF.tmp 22 rfl) (by omega) (by omega) _) rfl ?_; clear hF; intro a hF
    refine r_take 7 hF rfl rfl rfl (by kernel_rfl) (by kernel_rfl) (by kernel_rfl) (fun _ _ _ h => h) rfl hS (fun w hS => x_loadn ty53 (hF.tmp 23 rfl) rfl (hS 2499 _ rfl)) rfl ?_; clear hF; intro a hF
    refine r_take 8 hF rfl rfl rfl (by kernel_rfl) (by kernel_rfl) (by kernel_rfl) (fun _ _ _ h => h) rfl hS (fun w hS => st_nes (x := (gst xs1 (k : Int))) (y := (gst xs2 (k : Int))) (hb1 _ hm1).1 (hb2 _ hm2).1 (hb1 _ hm1).2.1 (hb2 _ hm2).2.1 (hF.tmp 20 rfl) (hF.tmp 24 rfl)) rfl ?_; clear hF; intro a hF
    refine r_end (by kernel_rfl) ?_; clear hS
    refine hK10 _ _ ?_
    refine wp_cond_split (hF.tmp 25 rfl) (fun hc25 => ?_) (fun hc25 => ?_)
    ·have hk25_4 := hc25; try simp only [Bool.or_eq_true, Bool.and_eq_true, Bool.or_eq_false_iff, Bool.and_eq_false_iff, Bool.not_eq_true', Bool.not_eq_false', decide_eq_true_eq, decide_eq_false_iff_not, Bool.not_true, Bool.not_false] at hc25
     have hz := same_at (xs := xs1) (ys := xs2) (fun l => gst l (k : Int)) hc25
     refine wp_seq_k fun khK11 hK11 => ?_
     refine wp_region_lit ?_
     refine l_at hF rfl rfl rfl (x_assign rfl) ?_; clear hF; intro a hF
     refine wpList_nil ?_
     refine hK11 _ _ ?_
     refine wp_ret ?_
     try simp only [Exit.then, Exit.inBlock]
     exact fin_ret hF (res1 hF rfl rfl) ⟨by rw [hz] <;> rfl, hH.mods⟩
    ·have hk25_5 := hc25; try simp only [Bool.or_eq_true, Bool.and_eq_true, Bool.or_eq_false_iff, Bool.and_eq_false_iff, Bool.not_eq_true', Bool.not_eq_false', decide_eq_true_eq, decide_eq_false_iff_not, Bool.not_true, Bool.not_false] at hc25
     refine wp_skip ?_
     refine hK9 _ _ ?_
     refine wp_region_lit ?_
     refine l_at hF rfl rfl rfl (x_move (hF.tmp 5 rfl)) ?_; clear hF; intro a hF
     refine l_at hF rfl rfl rfl (x_add (hF.tmp 15 rfl) rfl (w64 (by omega) (by omega))) ?_; clear hF; intro a hF
     refine l_at hF rfl rfl rfl (x_assign (hF.tmp 16 rfl)) ?_; clear hF; intro a hF
     refine wpList_nil ?_
     exact ⟨_, by omega, ⟨k + 1, rfl, by omega, same_step (gst_some (xs := xs1) (i := (k : Int)) (by omega) (by omega)) (gst_some (xs := xs2) (i := (k : Int)) (by omega) (by omega)) hq0_1 hc25, (((hF.bare.add hF 5 rfl).add hF 1 rfl).add hF 0 rfl), hH.sub _ (sub_cons (sub_cons (sub_nil _) 902 rfl) 901 rfl)⟩⟩
   ·have hk14_6 := hc14; try simp only [Bool.or_eq_true, Bool.and_eq_true, Bool.or_eq_false_iff, Bool.and_eq_false_iff, Bool.not_eq_true', Bool.not_eq_false', decide_eq_true_eq, decide_eq_false_iff_not, Bool.not_true, Bool.not_false] at hc14
    have hz := same_yes (xs := xs1) (ys := xs2) (k := k) (by omega) hll hq0_1
    refine wp_exit ?_
    refine hK5 _ _ ?_
    refine wp_seq_k fun khK12 hK12 => ?_
    refine wp_region_lit ?_
    refine l_at hF rfl rfl rfl (x_assign rfl) ?_; clear hF; intro a hF
    refine wpList_nil ?_
    refine hK12 _ _ ?_
    refine wp_ret ?_
    try simp only [Exit.then, Exit.inBlock]
    exact fin_ret hF (res1 hF rfl rfl) ⟨by rw [hz] <;> rfl, hH.mods⟩
set_option maxRecDepth 100000 in
set_option maxHeartbeats 1000000 in
theorem r10same_calls (w0 : World) {p q : TimerD} {okp0 : Nat → Prop} {Ap0 : Option Addr} {cp0 : Nat} (hrp0 : Rd StE w0 okp0 Ap0 p.steps cp0) {okq0 : Nat → Prop} {Aq0 : Option Addr} {cq0 : Nat} (hrq0 : Rd StE w0 okq0 Aq0 q.steps cq0) (ha : TimerB p) (hb : TimerB q) : Calls Tryd.prog 88 #[.agg #[.string (strOfNums p.name), .int .i64 p.ver, .int .u64 p.tick, .int .u64 p.every, .slice Ap0 p.steps.length cp0], .agg #[.string (strOfNums q.name), .int .i64 q.ver, .int .u64 q.tick, .int .u64 q.every, .slice Aq0 q.steps.length cq0]] w0 fun e w' => e = .returned (.bool (decide (p = q))) ∧ Mods (fun _ => False) w0 w' := by
 refine calls_of_wp Tryd.func88 rfl ?_
 have hF := Fr.enter #[.agg #[.string (strOfNums p.name), .int .i64 p.ver, .int .u64 p.tick, .int .u64 p.every, .slice Ap0 p.steps.length cp0], .agg #[.string (strOfNums q.name), .int .i64 q.ver, .int .u64 q.tick, .int .u64 q.every, .slice Aq0 q.steps.length cq0]] 40 (slotsOf [.agg #[.string (strOfNums p.name), .int .i64 p.ver, .int .u64 p.tick, .int .u64 p.every, .slice Ap0 p.steps.length cp0], .agg #[.string (strOfNums q.name), .int .i64 q.ver, .int .u64 q.tick, .int .u64 q.every, .slice Aq0 q.steps.length cq0]] 0) (Nat.le_of_ble_eq_true rfl) (fun i v h => by have h2 := (get_slotsOf _ 0 i v h).2; simpa only [List.getElem?_toArray, Nat.sub_zero] using h2)
 have hH := Hp.nil (fun _ => False) w0
 rw [Tryd.ntmps88]
 revert hF; generalize (⟨(#[.agg #[.string (strOfNums p.name), .int .i64 p.ver, .int .u64 p.tick, .int .u64 p.every, .slice Ap0 p.steps.length cp0], .agg #[.string (strOfNums q.name), .int .i64 q.ver, .int .u64 q.tick, .int .u64 q.every, .slice Aq0 q.steps.length cq0]] : Array Value) ++ Array.replicate (40 - (#[.agg #[.string (strOfNums p.name), .int .i64 p.ver, .int .u64 p.tick, .int .u64 p.every, .slice Ap0 p.steps.length cp0], .agg #[.string (strOfNums q.name), .int .i64 q.ver, .int .u64 q.tick, .int .u64 q.every, .slice Aq0 q.steps.length cq0]] : Array Value).size) undef, []⟩ : Act) = a; intro hF
 have hH := hH.arg 900 hrp0.all (fun _ h => ⟨h, fun h => h⟩)
 have hlep0 := hrp0.le; unfold maxLen at hlep0
 have hH := hH.arg 950 hrq0.all (fun _ h => ⟨h, fun h => h⟩)
 have hleq0 := hrq0.le; unfold maxLen at hleq0
 refine wp_seq_k fun khK1 hK1 => ?_
 refine wp_region_lit ?_
 refine wpList_plain rfl fun K hK => ?_
 refine w_box 2 hF hH rfl (hF.tmp 0 rfl) ?_
 clear hF hH; intro a w b2 hF hH
 refine hK _ _ ?_; clear hK K
 refine wpList_plain rfl fun K hK => ?_
 refine w_box 3 hF hH rfl (hF.tmp 1 rfl) ?_
 clear hF hH; intro a w b3 hF hH
 refine hK _ _ ?_; clear hK K
 refine l_at hF rfl rfl rfl (x_assign rfl) ?_; clear hF; intro a hF
 refine wpList_nil ?_
 refine hK1 _ _ ?_
 refine wp_seq_k fun khK2 hK2 => ?_
 refine wp_region_lit ?_
 refine l_at hF rfl rfl rfl (x_faddr Tryd.underlying39 rfl ty37 (by decide) (hF.tmp 2 rfl) rfl) ?_; clear hF; intro a hF
 refine l_at hF rfl rfl rfl (x_load1 ty37 (hF.tmp 6 rfl) (blk_cell (hH.at 2 rfl) 4 rfl)) ?_; clear hF; intro a hF
 refine l_at hF rfl rfl rfl (x_faddr Tryd.underlying39 rfl ty37 (by decide) (hF.tmp 3 rfl) rfl) ?_; clear hF; intro a hF
 refine l_at hF rfl rfl rfl (x_load1 ty37 (hF.tmp 8 rfl) (blk_cell (hH.at 3 rfl) 4 rfl)) ?_; clear hF; intro a hF
 refine wpList_plain rfl fun K hK => ?_
 refine w_call hF (x_enter Tryd.func105 (by kernel_rfl) rfl (by simp only [List.map_toArray, List.map_cons, List.map_nil, hF.tmp 7 rfl, hF.tmp 9 rfl] <;> rfl)) (r9same_calls _ ((hH.rd 900 rfl)) ((hH.rd 950 rfl)) ha.steps hb.steps) rfl rfl ?_
 rintro _ w ⟨rfl, hm_⟩; refine ⟨_, rfl, ?_⟩; clear hF; intro a hF; have hH := hH.same hm_
 refine hK _ _ ?_; clear hK K
 refine l_at hF rfl rfl rfl (x_assign (hF.tmp 10 rfl)) ?_; clear hF; intro a hF
 refine wpList_nil ?_
 refine hK2 _ _ ?_
 refine wp_seq_k fun khK3 hK3 => ?_
 refine wp_region_lit ?_
 refine l_at hF rfl rfl rfl (x_faddr Tryd.underlying39 rfl ty9 (by decide) (hF.tmp 2 rfl) rfl) ?_; clear hF; intro a hF
 refine l_at hF rfl rfl rfl (x_load1 ty9 (hF.tmp 11 rfl) (blk_cell (hH.at 2 rfl) 0 rfl)) ?_; clear hF; intro a hF
 refine l_at hF rfl rfl rfl (x_faddr Tryd.underlying39 rfl ty9 (by decide) (hF.tmp 3 rfl) rfl) ?_; clear hF; intro a hF
 refine l_at hF rfl rfl rfl (x_load1 ty9 (hF.tmp 13 rfl) (blk_cell (hH.at 3 rfl) 0 rfl)) ?_; clear hF; intro a hF
 refine l_at hF rfl rfl rfl (x_eqn (xs := p.name) (ys := q.name) (hF.tmp 12 rfl) (hF.tmp 14 rfl) ha.name hb.name) ?_; clear hF; intro a hF
 refine l_at hF rfl rfl rfl (x_move (hF.tmp 15 rfl)) ?_; clear hF; intro a hF
 refine split_bool hF 16 rfl (fun hb16 => ?_) (fun hb16 => ?_)
 ·have hc16 := hb16; try simp only [Bool.or_eq_true, Bool.and_eq_true, Bool.or_eq_false_iff, Bool.and_eq_false_iff, Bool.not_eq_true', Bool.not_eq_false', decide_eq_true_eq, decide_eq_false_iff_not, Bool.not_true, Bool.not_false] at hc16
  refine l_atg hF ((wanted_of hF rfl rfl rfl rfl).trans (by rw [hb16]; rfl)) rfl rfl (x_faddr Tryd.underlying39 rfl ty3 (by decide) (hF.tmp 2 rfl) rfl) ?_; clear hF; intro a hF
  refine l_atg hF ((wanted_of hF rfl rfl rfl rfl).trans (by rw [hb16]; rfl)) rfl rfl (x_load1 ty3 (hF.tmp 17 rfl) (blk_cell (hH.at 2 rfl) 1 rfl)) ?_; clear hF; intro a hF
  refine l_atg hF ((wanted_of hF rfl rfl rfl rfl).trans (by rw [hb16]; rfl)) rfl rfl (x_faddr Tryd.underlying39 rfl ty3 (by decide) (hF.tmp 3 rfl) rfl) ?_; clear hF; intro a hF
  refine l_atg hF ((wanted_of hF rfl rfl rfl rfl).trans (by rw [hb16]; rfl)) rfl rfl (x_load1 ty3 (hF.tmp 19 rfl) (blk_cell (hH.at 3 rfl) 1 rfl)) ?_; clear hF; intro a hF
  refine l_atg hF ((wanted_of hF rfl rfl rfl rfl).trans (by rw [hb16]; rfl)) rfl rfl (x_eql (hF.tmp 18 rfl) (hF.tmp 20 rfl)) ?_; clear hF; intro a hF
  refine l_at hF rfl rfl rfl (x_pickT (hF.tmp 16 rfl) hb16 (hF.tmp 21 rfl)) ?_; clear hF; intro a hF
  refine l_at hF rfl rfl rfl (x_move (hF.tmp 22 rfl)) ?_; clear hF; intro a hF
  refine split_bool hF 23 rfl (fun hb23 => ?_) (fun hb23 => ?_)
  ·have hc23 := hb23; try simp only [Bool.or_eq_true, Bool.and_eq_true, Bool.or_eq_false_iff, Bool.and_eq_false_iff, Bool.not_eq_true', Bool.not_eq_false', decide_eq_true_eq, decide_eq_false_iff_not, Bool.not_true, Bool.not_false] at hc23
   refine l_atg hF ((wanted_of hF rfl rfl rfl rfl).trans (by rw [hb23]; rfl)) rfl rfl (x_faddr Tryd.underlying39 rfl ty34 (by decide) (hF.tmp 2 rfl) rfl) ?_; clear hF; intro a hF
   refine l_atg hF ((wanted_of hF rfl rfl rfl rfl).trans (by rw [hb23]; rfl)) rfl rfl (x_load1 ty34 (hF.tmp 24 rfl) (blk_cell (hH.at 2 rfl) 2 rfl)) ?_; clear hF; intro a hF
   refine l_atg hF ((wanted_of hF rfl rfl rfl rfl).trans (by rw [hb23]; rfl)) rfl rfl (x_faddr Tryd.underlying39 rfl ty34 (by decide) (hF.tmp 3 rfl) rfl) ?_; clear hF; intro a hF
   refine l_atg hF ((wanted_of hF rfl rfl rfl rfl).trans (by rw [hb23]; rfl)) rfl rfl (x_load1 ty34 (hF.tmp 26 rfl) (blk_cell (hH.at 3 rfl) 2 rfl)) ?_; clear hF; intro a hF
   refine l_atg hF ((wanted_of hF rfl rfl rfl rfl).trans (by rw [hb23]; rfl)) rfl rfl (x_eql (hF.tmp 25 rfl) (hF.tmp 27 rfl)) ?_; clear hF; intro a hF
   refine l_at hF rfl rfl rfl (x_pickT (hF.tmp 23 rfl) hb23 (hF.tmp 28 rfl)) ?_; clear hF; intro a hF
   refine l_at hF rfl rfl rfl (x_move (hF.tmp 29 rfl)) ?_; clear hF; intro a hF
   refine split_bool hF 30 rfl (fun hb30 => ?_) (fun hb30 => ?_)
   ·have hc30 := hb30; try simp only [Bool.or_eq_true, Bool.and_eq_true, Bool.or_eq_false_iff, Bool.and_eq_false_iff, Bool.not_eq_true', Bool.not_eq_false', decide_eq_true_eq, decide_eq_false_iff_not, Bool.not_true, Bool.not_false] at hc30
    refine l_atg hF ((wanted_of hF rfl rfl rfl rfl).trans (by rw [hb30]; rfl)) rfl rfl (x_faddr Tryd.underlying39 rfl ty34 (by decide) (hF.tmp 2 rfl) rfl) ?_; clear hF; intro a hF
    refine l_atg hF ((wanted_of hF rfl rfl rfl rfl).trans (by rw [hb30]; rfl)) rfl rfl (x_load1 ty34 (hF.tmp 31 rfl) (blk_cell (hH.at 2 rfl) 3 rfl)) ?_; clear hF; intro a hF
    refine l_atg hF ((wanted_of hF rfl rfl rfl rfl).trans (by rw [hb30]; rfl)) rfl rfl (x_faddr Tryd.underlying39 rfl ty34 (by decide) (hF.tmp 3 rfl) rfl) ?_; clear hF; intro a hF
    refine l_atg hF ((wanted_of hF rfl rfl rfl rfl).trans (by rw [hb30]; rfl)) rfl rfl (x_load1 ty34 (hF.tmp 33 rfl) (blk_cell (hH.at 3 rfl) 3 rfl)) ?_; clear hF; intro a hF
    refine l_atg hF ((wanted_of hF rfl rfl rfl rfl).trans (by rw [hb30]; rfl)) rfl rfl (x_eql (hF.tmp 32 rfl) (hF.tmp 34 rfl)) ?_; clear hF; intro a hF
    refine l_at hF rfl rfl rfl (x_pickT (hF.tmp 30 rfl) hb30 (hF.tmp 35 rfl)) ?_; clear hF; intro a hF
    refine l_at hF rfl rfl rfl (x_move (hF.tmp 36 rfl)) ?_; clear hF; intro a hF
    refine split_bool hF 37 rfl (fun hb37 => ?_) (fun hb37 => ?_)
    ·have hc37 := hb37; try simp only [Bool.or_eq_true, Bool.and_eq_true, Bool.or_eq_false_iff, Bool.and_eq_false_iff, Bool.not_eq_true', Bool.not_eq_false', decide_eq_true_eq, decide_eq_false_iff_not, Bool.not_true, Bool.not_false] at hc37
     refine l_atg hF ((wanted_of hF rfl rfl rfl rfl).trans (by rw [hb37]; rfl)) rfl rfl (x_move (hF.tmp 5 rfl)) ?_; clear hF; intro a hF
     refine l_at hF rfl rfl rfl (x_pickT (hF.tmp 37 rfl) hb37 (hF.tmp 38 rfl)) ?_; clear hF; intro a hF
     refine l_at hF rfl rfl rfl (x_assign (hF.tmp 39 rfl)) ?_; clear hF; intro a hF
     refine wpList_nil ?_
     refine hK3 _ _ ?_
     refine wp_ret ?_
     try simp only [Exit.then, Exit.inBlock]
     have hv : (decide (p.steps = q.steps)) = decide (p = q) := by rw [Bool.eq_iff_iff]; simp only [decide_eq_true_iff, tim_same]; first | (simp [hc16, hc23, hc30, hc37]; done) | (simp [hc16, hc23, hc30, hc37]; omega)
     exact fin_ret hF (res1 (v := .bool (decide (p.steps = q.steps))) hF rfl rfl) ⟨by rw [hv], hH.mods⟩
    ·have hc37 := hb37; try simp only [Bool.or_eq_true, Bool.and_eq_true, Bool.or_eq_false_iff, Bool.and_eq_false_iff, Bool.not_eq_true', Bool.not_eq_false', decide_eq_true_eq, decide_eq_false_iff_not, Bool.not_true, Bool.not_false] at hc37
     refine l_offg hF ((wanted_of hF rfl rfl rfl rfl).trans (by rw [hb37]; rfl)) rfl rfl ?_; clear hF; intro a hF
     refine l_at hF rfl rfl rfl (x_pickF (hF.tmp 37 rfl) hb37 rfl) ?_; clear hF; intro a hF
     refine l_at hF rfl rfl rfl (x_assign (hF.tmp 39 rfl)) ?_; clear hF; intro a hF
     refine wpList_nil ?_
     refine hK3 _ _ ?_
     refine wp_ret ?_
     try simp only [Exit.then, Exit.inBlock]
     have hv : false = decide (p = q) := by rw [Bool.eq_iff_iff]; simp only [decide_eq_true_iff, tim_same]; first | (simp [hc16, hc23, hc30, hc37]; done) | (simp [hc16, hc23, hc30, hc37]; omega)
     exact fin_ret hF (res1 (v := .bool false) hF rfl rfl) ⟨by rw [hv], hH.mods⟩
   ·have hc30 := hb30; try simp only [Bool.or_eq_true, Bool.and_eq_true, Bool.or_eq_false_iff, Bool.and_eq_false_iff, Bool.not_eq_true', Bool.not_eq_false', decide_eq_true_eq, decide_eq_false_iff_not, Bool.not_true, Bool.not_false] at hc30
    refine l_offg hF ((wanted_of hF rfl rfl rfl rfl).trans (by rw [hb30]; rfl)) rfl rfl ?_; clear hF; intro a hF
    refine l_offg hF ((wanted_of hF rfl rfl rfl rfl).trans (by rw [hb30]; rfl)) rfl rfl ?_; clear hF; intro a hF
    refine l_offg hF ((wanted_of hF rfl rfl rfl rfl).trans (by rw [hb30]; rfl)) rfl rfl ?_; clear hF; intro a hF
    refine l_offg hF ((wanted_of hF rfl rfl rfl rfl).trans (by rw [hb30]; rfl)) rfl rfl ?_; clear hF; intro a hF
    refine l_offg hF ((wanted_of hF rfl rfl rfl rfl).trans (by rw [hb30]; rfl)) rfl rfl ?_; clear hF; intro a hF
    refine l_at hF rfl rfl rfl (x_pickF (hF.tmp 30 rfl) hb30 rfl) ?_; clear hF; intro a hF
    refine l_at hF rfl rfl rfl (x_move (hF.tmp 36 rfl)) ?_; clear hF; intro a hF
    refine l_offg hF ((wanted_of hF rfl rfl rfl rfl).trans rfl) rfl rfl ?_; clear hF; intro a hF
    refine l_at hF rfl rfl rfl (x_pickF (hF.tmp 37 rfl) rfl rfl) ?_; clear hF; intro a hF
    refine l_at hF rfl rfl rfl (x_assign (hF.tmp 39 rfl)) ?_; clear hF; intro a hF
    refine wpList_nil ?_
    refine hK3 _ _ ?_
    refine wp_ret ?_
    try simp only [Exit.then, Exit.inBlock]
    have hv : false = decide (p = q) := by rw [Bool.eq_iff_iff]; simp only [decide_eq_true_iff, tim_same]; first | (simp [hc16, hc23, hc30]; done) | (simp [hc16, hc23, hc30]; omega)
    exact fin_ret hF (res1 (v := .bool false) hF rfl rfl) ⟨by rw [hv], hH.mods⟩
  ·have hc23 := hb23; try simp only [Bool.or_eq_true, Bool.and_eq_true, Bool.or_eq_false_iff, Bool.and_eq_false_iff, Bool.not_eq_true', Bool.not_eq_false', decide_eq_true_eq, decide_eq_false_iff_not, Bool.not_true, Bool.not_false] at hc23
   refine l_offg hF ((wanted_of hF rfl rfl rfl rfl).trans (by rw [hb23]; rfl)) rfl rfl ?_; clear hF; intro a hF
   refine l_offg hF ((wanted_of hF rfl rfl rfl rfl).trans (by rw [hb23]; rfl)) rfl rfl ?_; clear hF; intro a hF
   refine l_offg hF ((wanted_of hF rfl rfl rfl rfl).trans (by rw [hb23]; rfl)) rfl rfl ?_; clear hF; intro a hF
   refine l_offg hF ((wanted_of hF rfl rfl rfl rfl).trans (by rw [hb23]; rfl)) rfl rfl ?_; clear hF; intro a hF
   refine l_offg hF ((wanted_of hF rfl rfl rfl rfl).trans (by rw [hb23]; rfl)) rfl rfl ?_; clear hF; intro a hF
   refine l_at hF rfl rfl rfl (x_pickF (hF.tmp 23 rfl) hb23 rfl) ?_; clear hF; intro a hF
   refine l_at hF rfl rfl rfl (x_move (hF.tmp 29 rfl)) ?_; clear hF; intro a hF
   refine l_offg hF ((wanted_of hF rfl rfl rfl rfl).trans rfl) rfl rfl ?_; clear hF; intro a hF
   refine l_offg hF ((wanted_of hF rfl rfl rfl rfl).trans rfl) rfl rfl ?_; clear hF; intro a hF
   refine l_offg hF ((wanted_of hF rfl rfl rfl rfl).trans rfl) rfl rfl ?_; clear hF; intro a hF
   refine l_offg hF ((wanted_of hF rfl rfl rfl rfl).trans rfl) rfl rfl ?_; clear hF; intro a hF
   refine l_offg hF ((wanted_of hF rfl rfl rfl rfl).trans rfl) rfl rfl ?_; clear hF; intro a hF
   refine l_at hF rfl rfl rfl (x_pickF (hF.tmp 30 rfl) rfl rfl) ?_; clear hF; intro a hF
   refine l_at hF rfl rfl rfl (x_move (hF.tmp 36 rfl)) ?_; clear hF; intro a hF
   refine l_offg hF ((wanted_of hF rfl rfl rfl rfl).trans rfl) rfl rfl ?_; clear hF; intro a hF
   refine l_at hF rfl rfl rfl (x_pickF (hF.tmp 37 rfl) rfl rfl) ?_; clear hF; intro a hF
   refine l_at hF rfl rfl rfl (x_assign (hF.tmp 39 rfl)) ?_; clear hF; intro a hF
   refine wpList_nil ?_
   refine hK3 _ _ ?_
   refine wp_ret ?_
   try simp only [Exit.then, Exit.inBlock]
   have hv : false = decide (p = q) := by rw [Bool.eq_iff_iff]; simp only [decide_eq_true_iff, tim_same]; first | (simp [hc16, hc23]; done) | (simp [hc16, hc23]; omega)
   exact fin_ret hF (res1 (v := .bool false) hF rfl rfl) ⟨by rw [hv], hH.mods⟩
 ·have hc16 := hb16; try simp only [Bool.or_eq_true, Bool.and_eq_true, Bool.or_eq_false_iff, Bool.and_eq_false_iff, Bool.not_eq_true', Bool.not_eq_false', decide_eq_true_eq, decide_eq_false_iff_not, Bool.not_true, Bool.not_false] at hc16
  refine l_offg hF ((wanted_of hF rfl rfl rfl rfl).trans (by rw [hb16]; rfl)) rfl rfl ?_; clear hF; intro a hF
  refine l_offg hF ((wanted_of hF rfl rfl rfl rfl).trans (by rw [hb16]; rfl)) rfl rfl ?_; clear hF; intro a hF
  refine l_offg hF ((wanted_of hF rfl rfl rfl rfl).trans (by rw [hb16]; rfl)) rfl rfl ?_; clear hF; intro a hF
  refine l_offg hF ((wanted_of hF rfl rfl rfl rfl).trans (by rw [hb16]; rfl)) rfl rfl ?_; clear hF; intro a hF
  refine l_offg hF ((wanted_of hF rfl rfl rfl rfl).trans (by rw [hb16]; rfl)) rfl rfl ?_; clear hF; intro a hF
  refine l_at hF rfl rfl rfl (x_pickF (hF.tmp 16 rfl) hb16 rfl) ?_; clear hF; intro a hF
  refine l_at hF rfl rfl rfl (x_move (hF.tmp 22 rfl)) ?_; clear hF; intro a hF
  refine l_offg hF ((wanted_of hF rfl rfl rfl rfl).trans rfl) rfl rfl ?_; clear hF; intro a hF
  refine l_offg hF ((wanted_of hF rfl rfl rfl rfl).trans rfl) rfl rfl ?_; clear hF; intro a hF
  refine l_offg hF ((wanted_of hF rfl rfl rfl rfl).trans rfl) rfl rfl ?_; clear hF; intro a hF
  refine l_offg hF ((wanted_of hF rfl rfl rfl rfl).trans rfl) rfl rfl ?_; clear hF; intro a hF
  refine l_offg hF ((wanted_of hF rfl rfl rfl rfl).trans rfl) rfl rfl ?_; clear hF; intro a hF
  refine l_at hF rfl rfl rfl (x_pickF (hF.tmp 23 rfl) rfl rfl) ?_; clear hF; intro a hF
  refine l_at hF rfl rfl rfl (x_move (hF.tmp 29 rfl)) ?_; clear hF; intro a hF
  refine l_offg hF ((wanted_of hF rfl rfl rfl rfl).trans rfl) rfl rfl ?_; clear hF; intro a hF
  refine l_offg hF ((wanted_of hF rfl rfl rfl rfl).trans rfl) rfl rfl ?_; clear hF; intro a hF
  refine l_offg hF ((wanted_of hF rfl rfl rfl rfl).trans rfl) rfl rfl ?_; clear hF; intro a hF
  refine l_offg hF ((wanted_of hF rfl rfl rfl rfl).trans rfl) rfl rfl ?_; clear hF; intro a hF
  refine l_offg hF ((wanted_of hF rfl rfl rfl rfl).trans rfl) rfl rfl ?_; clear hF; intro a hF
  refine l_at hF rfl rfl rfl (x_pickF (hF.tmp 30 rfl) rfl rfl) ?_; clear hF; intro a hF
  refine l_at hF rfl rfl rfl (x_move (hF.tmp 36 rfl)) ?_; clear hF; intro a hF
  refine l_offg hF ((wanted_of hF rfl rfl rfl rfl).trans rfl) rfl rfl ?_; clear hF; intro a hF
  refine l_at hF rfl rfl rfl (x_pickF (hF.tmp 37 rfl) rfl rfl) ?_; clear hF; intro a hF
  refine l_at hF rfl rfl rfl (x_assign (hF.tmp 39 rfl)) ?_; clear hF; intro a hF
  refine wpList_nil ?_
  refine hK3 _ _ ?_
  refine wp_ret ?_
  try simp only [Exit.then, Exit.inBlock]
  have hv : false = decide (p = q) := by rw [Bool.eq_iff_iff]; simp only [decide_eq_true_iff, tim_same]; first | (simp [hc16]; done) | (simp [hc16]; omega)
  exact fin_ret hF (res1 (v := .bool false) hF rfl rfl) ⟨by rw [hv], hH.mods⟩
set_option maxRecDepth 100000 in
set_option maxHeartbeats 1000000 in
theorem sameO_calls (w0 : World) {p q : OpD} {okp0 : Nat → Prop} {Ap0 : Option Addr} {cp0 : Nat} (hrp0 : Rd StE w0 okp0 Ap0 p.timer.steps cp0) {okq0 : Nat → Prop} {Aq0 : Option Addr} {cq0 : Nat} (hrq0 : Rd StE w0 okq0 Aq0 q.timer.steps cq0) (ha : OpB p) (hb : OpB q) : Calls Tryd.prog 57 #[.agg #[.int .i64 p.kind, .string (strOfNums p.key), .int .i64 p.step.1, .string (strOfNums p.step.2.1), .string (strOfNums p.step.2.2.1), .int .i64 p.step.2.2.2, .string (strOfNums p.timer.name), .int .i64 p.timer.ver, .int .u64 p.timer.tick, .int .u64 p.timer.every, .slice Ap0 p.timer.steps.length cp0], .agg #[.int .i64 q.kind, .string (strOfNums q.key), .int .i64 q.step.1, .string (strOfNums q.step.2.1), .string (strOfNums q.step.2.2.1), .int .i64 q.step.2.2.2, .string (strOfNums q.timer.name), .int .i64 q.timer.ver, .int .u64 q.timer.tick, .int .u64 q.timer.every, .slice Aq0 q.timer.steps.length cq0]] w0 fun e w' => e = .returned (.bool (decide (p = q))) ∧ Mods (fun _ => False) w0 w' := by
 refine calls_of_wp Tryd.func57 rfl ?_
 have hF := Fr.enter #[.agg #[.int .i64 p.kind, .string (strOfNums p.key), .int .i64 p.step.1, .string (strOfNums p.step.2.1), .string (strOfNums p.step.2.2.1), .int .i64 p.step.2.2.2, .string (strOfNums p.timer.name), .int .i64 p.timer.ver, .int .u64 p.timer.tick, .int .u64 p.timer.every, .slice Ap0 p.timer.steps.length cp0], .agg #[.int .i64 q.kind, .string (strOfNums q.key), .int .i64 q.step.1, .string (strOfNums q.step.2.1), .string (strOfNums q.step.2.2.1), .int .i64 q.step.2.2.2, .string (strOfNums q.timer.name), .int .i64 q.timer.ver, .int .u64 q.timer.tick, .int .u64 q.timer.every, .slice Aq0 q.timer.steps.length cq0]] 33 (slotsOf [.agg #[.int .i64 p.kind, .string (strOfNums p.key), .int .i64 p.step.1, .string (strOfNums p.step.2.1), .string (strOfNums p.step.2.2.1), .int .i64 p.step.2.2.2, .string (strOfNums p.timer.name), .int .i64 p.timer.ver, .int .u64 p.timer.tick, .int .u64 p.timer.every, .slice Ap0 p.timer.steps.length cp0], .agg #[.int .i64 q.kind, .string (strOfNums q.key), .int .i64 q.step.1, .string (strOfNums q.step.2.1), .string (strOfNums q.step.2.2.1), .int .i64 q.step.2.2.2, .string (strOfNums q.timer.name), .int .i64 q.timer.ver, .int .u64 q.timer.tick, .int .u64 q.timer.every, .slice Aq0 q.timer.steps.length cq0]] 0) (Nat.le_of_ble_eq_true rfl) (fun i v h => by have h2 := (get_slotsOf _ 0 i v h).2; simpa only [List.getElem?_toArray, Nat.sub_zero] using h2)
 have hH := Hp.nil (fun _ => False) w0
 rw [Tryd.ntmps57]
 revert hF; generalize (⟨(#[.agg #[.int .i64 p.kind, .string (strOfNums p.key), .int .i64 p.step.1, .string (strOfNums p.step.2.1), .string (strOfNums p.step.2.2.1), .int .i64 p.step.2.2.2, .string (strOfNums p.timer.name), .int .i64 p.timer.ver, .int .u64 p.timer.tick, .int .u64 p.timer.every, .slice Ap0 p.timer.steps.length cp0], .agg #[.int .i64 q.kind, .string (strOfNums q.key), .int .i64 q.step.1, .string (strOfNums q.step.2.1), .string (strOfNums q.step.2.2.1), .int .i64 q.step.2.2.2, .string (strOfNums q.timer.name), .int .i64 q.timer.ver, .int .u64 q.timer.tick, .int .u64 q.timer.every, .slice Aq0 q.timer.steps.length cq0]] : Array Value) ++ Array.replicate (33 - (#[.agg #[.int .i64 p.kind, .string (strOfNums p.key), .int .i64 p.step.1, .string (strOfNums p.step.2.1), .string (strOfNums p.step.2.2.1), .int .i64 p.step.2.2.2, .string (strOfNums p.timer.name), .int .i64 p.timer.ver, .int .u64 p.timer.tick, .int .u64 p.timer.every, .slice Ap0 p.timer.steps.length cp0], .agg #[.int .i64 q.kind, .string (strOfNums q.key), .int .i64 q.step.1, .string (strOfNums q.step.2.1), .string (strOfNums q.step.2.2.1), .int .i64 q.step.2.2.2, .string (strOfNums q.timer.name), .int .i64 q.timer.ver, .int .u64 q.timer.tick, .int .u64 q.timer.every, .slice Aq0 q.timer.steps.length cq0]] : Array Value).size) undef, []⟩ : Act) = a; intro hF
 have hH := hH.arg 900 hrp0.all (fun _ h => ⟨h, fun h => h⟩)
 have hlep0 := hrp0.le; unfold maxLen at hlep0
 have hH := hH.arg 950 hrq0.all (fun _ h => ⟨h, fun h => h⟩)
 have hleq0 := hrq0.le; unfold maxLen at hleq0
 refine wp_seq_k fun khK1 hK1 => ?_
 refine wp_region_lit ?_
 refine wpList_plain rfl fun K hK => ?_
 refine w_box 2 hF hH rfl (hF.tmp 0 rfl) ?_
 clear hF hH; intro a w b2 hF hH
 refine hK _ _ ?_; clear hK K
 refine wpList_plain rfl fun K hK => ?_
 refine w_box 3 hF hH rfl (hF.tmp 1 rfl) ?_
 clear hF hH; intro a w b3 hF hH
 refine hK _ _ ?_; clear hK K
 refine l_at hF rfl rfl rfl (x_assign rfl) ?_; clear hF; intro a hF
 refine wpList_nil ?_
 refine hK1 _ _ ?_
 refine wp_seq_k fun khK2 hK2 => ?_
 refine wp_region_lit ?_
 refine l_at hF rfl rfl rfl (x_faddr Tryd.underlying55 rfl ty39 (by decide) (hF.tmp 2 rfl) rfl) ?_; clear hF; intro a hF
 refine l_at hF rfl rfl rfl (x_loadn (cs := #[.string (strOfNums p.timer.name), .int .i64 p.timer.ver, .int .u64 p.timer.tick, .int .u64 p.timer.every, .slice Ap0 p.timer.steps.length cp0]) ty39 (hF.tmp 6 rfl) rfl (blk_sub (hH.at 2 rfl) 6 5 rfl)) ?_; clear hF; intro a hF
 refine l_at hF rfl rfl rfl (x_faddr Tryd.underlying55 rfl ty39 (by decide) (hF.tmp 3 rfl) rfl) ?_; clear hF; intro a hF
 refine l_at hF rfl rfl rfl (x_loadn (cs := #[.string (strOfNums q.timer.name), .int .i64 q.timer.ver, .int .u64 q.timer.tick, .int .u64 q.timer.every, .slice Aq0 q.timer.steps.length cq0]) ty39 (hF.tmp 8 rfl) rfl (blk_sub (hH.at 3 rfl) 6 5 rfl)) ?_; clear hF; intro a hF
 refine wpList_plain rfl fun K hK => ?_
 refine w_call hF (x_enter Tryd.func88 (by kernel_rfl) rfl (by simp only [List.map_toArray, List.map_cons, List.map_nil, hF.tmp 7 rfl, hF.tmp 9 rfl] <;> rfl)) (r10same_calls _ ((hH.rd 900 rfl)) ((hH.rd 950 rfl)) ha.timer hb.timer) rfl rfl ?_
 rintro _ w ⟨rfl, hm_⟩; refine ⟨_, rfl, ?_⟩; clear hF; intro a hF; have hH := hH.same hm_
 refine hK _ _ ?_; clear hK K
 refine l_at hF rfl rfl rfl (x_assign (hF.tmp 10 rfl)) ?_; clear hF; intro a hF
 refine wpList_nil ?_
 refine hK2 _ _ ?_
 refine wp_seq_k fun khK3 hK3 => ?_
 refine wp_region_lit ?_
 refine l_at hF rfl rfl rfl (x_faddr Tryd.underlying55 rfl ty50 (by decide) (hF.tmp 2 rfl) rfl) ?_; clear hF; intro a hF
 refine l_at hF rfl rfl rfl (x_load1 ty50 (hF.tmp 11 rfl) (blk_cell (hH.at 2 rfl) 0 rfl)) ?_; clear hF; intro a hF
 refine l_at hF rfl rfl rfl (x_faddr Tryd.underlying55 rfl ty50 (by decide) (hF.tmp 3 rfl) rfl) ?_; clear hF; intro a hF
 refine l_at hF rfl rfl rfl (x_load1 ty50 (hF.tmp 13 rfl) (blk_cell (hH.at 3 rfl) 0 rfl)) ?_; clear hF; intro a hF
 refine l_at hF rfl rfl rfl (x_eql (hF.tmp 12 rfl) (hF.tmp 14 rfl)) ?_; clear hF; intro a hF
 refine l_at hF rfl rfl rfl (x_move (hF.tmp 15 rfl)) ?_; clear hF; intro a hF
 refine split_bool hF 16 rfl (fun hb16 => ?_) (fun hb16 => ?_)
 ·have hc16 := hb16; try simp only [Bool.or_eq_true, Bool.and_eq_true, Bool.or_eq_false_iff, Bool.and_eq_false_iff, Bool.not_eq_true', Bool.not_eq_false', decide_eq_true_eq, decide_eq_false_iff_not, Bool.not_true, Bool.not_false] at hc16
  refine l_atg hF ((wanted_of hF rfl rfl rfl rfl).trans (by rw [hb16]; rfl)) rfl rfl (x_faddr Tryd.underlying55 rfl ty9 (by decide) (hF.tmp 2 rfl) rfl) ?_; clear hF; intro a hF
  refine l_atg hF ((wanted_of hF rfl rfl rfl rfl).trans (by rw [hb16]; rfl)) rfl rfl (x_load1 ty9 (hF.tmp 17 rfl) (blk_cell (hH.at 2 rfl) 1 rfl)) ?_; clear hF; intro a hF
  refine l_atg hF ((wanted_of hF rfl rfl rfl rfl).trans (by rw [hb16]; rfl)) rfl rfl (x_faddr Tryd.underlying55 rfl ty9 (by decide) (hF.tmp 3 rfl) rfl) ?_; clear hF; intro a hF
  refine l_atg hF ((wanted_of hF rfl rfl rfl rfl).trans (by rw [hb16]; rfl)) rfl rfl (x_load1 ty9 (hF.tmp 19 rfl) (blk_cell (hH.at 3 rfl) 1 rfl)) ?_; clear hF; intro a hF
  refine l_atg hF ((wanted_of hF rfl rfl rfl rfl).trans (by rw [hb16]; rfl)) rfl rfl (x_eqn (xs := p.key) (ys := q.key) (hF.tmp 18 rfl) (hF.tmp 20 rfl) ha.key hb.key) ?_; clear hF; intro a hF
  refine l_at hF rfl rfl rfl (x_pickT (hF.tmp 16 rfl) hb16 (hF.tmp 21 rfl)) ?_; clear hF; intro a hF
  refine l_at hF rfl rfl rfl (x_move (hF.tmp 22 rfl)) ?_; clear hF; intro a hF
  refine split_bool hF 23 rfl (fun hb23 => ?_) (fun hb23 => ?_)
  ·have hc23 := hb23; try simp only [Bool.or_eq_true, Bool.and_eq_true, Bool.or_eq_false_iff, Bool.and_eq_false_iff, Bool.not_eq_true', Bool.not_eq_false', decide_eq_true_eq, decide_eq_false_iff_not, Bool.not_true, Bool.not_false] at hc23
   refine l_atg hF ((wanted_of hF rfl rfl rfl rfl).trans (by rw [hb23]; rfl)) rfl rfl (x_faddr Tryd.underlying55 rfl ty53 (by decide) (hF.tmp 2 rfl) rfl) ?_; clear hF; intro a hF
   refine l_atg hF ((wanted_of hF rfl rfl rfl rfl).trans (by rw [hb23]; rfl)) rfl rfl (x_loadn (cs := #[.int .i64 p.step.1, .string (strOfNums p.step.2.1), .string (strOfNums p.step.2.2.1), .int .i64 p.step.2.2.2]) ty53 (hF.tmp 24 rfl) rfl (blk_sub (hH.at 2 rfl) 2 4 rfl)) ?_; clear hF; intro a hF
   refine l_atg hF ((wanted_of hF rfl rfl rfl rfl).trans (by rw [hb23]; rfl)) rfl rfl (x_faddr Tryd.underlying55 rfl ty53 (by decide) (hF.tmp 3 rfl) rfl) ?_; clear hF; intro a hF
   refine l_atg hF ((wanted_of hF rfl rfl rfl rfl).trans (by rw [hb23]; rfl)) rfl rfl (x_loadn (cs := #[.int .i64 q.step.1, .string (strOfNums q.step.2.1), .string (strOfNums q.step.2.2.1), .int .i64 q.step.2.2.2]) ty53 (hF.tmp 26 rfl) rfl (blk_sub (hH.at 3 rfl) 2 4 rfl)) ?_; clear hF; intro a hF
   refine l_atg hF ((wanted_of hF rfl rfl rfl rfl).trans (by rw [hb23]; rfl)) rfl rfl (st_eqs (x := p.step) (y := q.step) ha.step.1 hb.step.1 ha.step.2.1 hb.step.2.1 (hF.tmp 25 rfl) (hF.tmp 27 rfl)) ?_; clear hF; intro a hF
   refine l_at hF rfl rfl rfl (x_pickT (hF.tmp 23 rfl) hb23 (hF.tmp 28 rfl)) ?_; clear hF; intro a hF
   refine l_at hF rfl rfl rfl (x_move (hF.tmp 29 rfl)) ?_; clear hF; intro a hF
   refine split_bool hF 30 rfl (fun hb30 => ?_) (fun hb30 => ?_)
   ·have hc30 := hb30; try simp only [Bool.or_eq_true, Bool.and_eq_true, Bool.or_eq_false_iff, Bool.and_eq_false_iff, Bool.not_eq_true', Bool.not_eq_false', decide_eq_true_eq, decide_eq_false_iff_not, Bool.not_true, Bool.not_false] at hc30
    refine l_atg hF ((wanted_of hF rfl rfl rfl rfl).trans (by rw [hb30]; rfl)) rfl rfl (x_move (hF.tmp 5 rfl)) ?_; clear hF; intro a hF
    refine l_at hF rfl rfl rfl (x_pickT (hF.tmp 30 rfl) hb30 (hF.tmp 31 rfl)) ?_; clear hF; intro a hF
    refine l_at hF rfl rfl rfl (x_assign (hF.tmp 32 rfl)) ?_; clear hF; intro a hF
    refine wpList_nil ?_
    refine hK3 _ _ ?_
    refine wp_ret ?_
    try simp only [Exit.then, Exit.inBlock]
    have hv : (decide (p.timer = q.timer)) = decide (p = q) := by rw [Bool.eq_iff_iff]; simp only [decide_eq_true_iff, opd_same]; first | (simp [hc16, hc23, hc30]; done) | (simp [hc16, hc23, hc30]; omega)
    exact fin_ret hF (res1 (v := .bool (decide (p.timer = q.timer))) hF rfl rfl) ⟨by rw [hv], hH.mods⟩
   ·have hc30 := hb30; try simp only [Bool.or_eq_true, Bool.and_eq_true, Bool.or_eq_false_iff, Bool.and_eq_false_iff, Bool.not_eq_true', Bool.not_eq_false', decide_eq_true_eq, decide_eq_false_iff_not, Bool.not_true, Bool.not_false] at hc30
    refine l_offg hF ((wanted_of hF rfl rfl rfl rfl).trans (by rw [hb30]; rfl)) rfl rfl ?_; clear hF; intro a hF
    refine l_at hF rfl rfl rfl (x_pickF (hF.tmp 30 rfl) hb30 rfl) ?_; clear hF; intro a hF
    refine l_at hF rfl rfl rfl (x_assign (hF.tmp 32 rfl)) ?_; clear hF; intro a hF
    refine wpList_nil ?_
    refine hK3 _ _ ?_
    refine wp_ret ?_
    try simp only [Exit.then, Exit.inBlock]
    have hv : false = decide (p = q) := by rw [Bool.eq_iff_iff]; simp only [decide_eq_true_iff, opd_same]; first | (simp [hc16, hc23, hc30]; done) | (simp [hc16, hc23, hc30]; omega)
    exact fin_ret hF (res1 (v := .bool false) hF rfl rfl) ⟨by rw [hv], hH.mods⟩
  ·have hc23 := hb23; try simp only [Bool.or_eq_true, Bool.and_eq_true, Bool.or_eq_false_iff, Bool.and_eq_false_iff, Bool.not_eq_true', Bool.not_eq_false', decide_eq_true_eq, decide_eq_false_iff_not, Bool.not_true, Bool.not_false] at hc23
   refine l_offg hF ((wanted_of hF rfl rfl rfl rfl).trans (by rw [hb23]; rfl)) rfl rfl ?_; clear hF; intro a hF
   refine l_offg hF ((wanted_of hF rfl rfl rfl rfl).trans (by rw [hb23]; rfl)) rfl rfl ?_; clear hF; intro a hF
   refine l_offg hF ((wanted_of hF rfl rfl rfl rfl).trans (by rw [hb23]; rfl)) rfl rfl ?_; clear hF; intro a hF
   refine l_offg hF ((wanted_of hF rfl rfl rfl rfl).trans (by rw [hb23]; rfl)) rfl rfl ?_; clear hF; intro a hF
   refine l_offg hF ((wanted_of hF rfl rfl rfl rfl).trans (by rw [hb23]; rfl)) rfl rfl ?_; clear hF; intro a hF
   refine l_at hF rfl rfl rfl (x_pickF (hF.tmp 23 rfl) hb23 rfl) ?_; clear hF; intro a hF
   refine l_at hF rfl rfl rfl (x_move (hF.tmp 29 rfl)) ?_; clear hF; intro a hF
   refine l_offg hF ((wanted_of hF rfl rfl rfl rfl).trans rfl) rfl rfl ?_; clear hF; intro a hF
   refine l_at hF rfl rfl rfl (x_pickF (hF.tmp 30 rfl) rfl rfl) ?_; clear hF; intro a hF
   refine l_at hF rfl rfl rfl (x_assign (hF.tmp 32 rfl)) ?_; clear hF; intro a hF
   refine wpList_nil ?_
   refine hK3 _ _ ?_
   refine wp_ret ?_
   try simp only [Exit.then, Exit.inBlock]
   have hv : false = decide (p = q) := by rw [Bool.eq_iff_iff]; simp only [decide_eq_true_iff, opd_same]; first | (simp [hc16, hc23]; done) | (simp [hc16, hc23]; omega)
   exact fin_ret hF (res1 (v := .bool false) hF rfl rfl) ⟨by rw [hv], hH.mods⟩
 ·have hc16 := hb16; try simp only [Bool.or_eq_true, Bool.and_eq_true, Bool.or_eq_false_iff, Bool.and_eq_false_iff, Bool.not_eq_true', Bool.not_eq_false', decide_eq_true_eq, decide_eq_false_iff_not, Bool.not_true, Bool.not_false] at hc16
  refine l_offg hF ((wanted_of hF rfl rfl rfl rfl).trans (by rw [hb16]; rfl)) rfl rfl ?_; clear hF; intro a hF
  refine l_offg hF ((wanted_of hF rfl rfl rfl rfl).trans (by rw [hb16]; rfl)) rfl rfl ?_; clear hF; intro a hF
  refine l_offg hF ((wanted_of hF rfl rfl rfl rfl).trans (by rw [hb16]; rfl)) rfl rfl ?_; clear hF; intro a hF
  refine l_offg hF ((wanted_of hF rfl rfl rfl rfl).trans (by rw [hb16]; rfl)) rfl rfl ?_; clear hF; intro a hF
  refine l_offg hF ((wanted_of hF rfl rfl rfl rfl).trans (by rw [hb16]; rfl)) rfl rfl ?_; clear hF; intro a hF
  refine l_at hF rfl rfl rfl (x_pickF (hF.tmp 16 rfl) hb16 rfl) ?_; clear hF; intro a hF
  refine l_at hF rfl rfl rfl (x_move (hF.tmp 22 rfl)) ?_; clear hF; intro a hF
  refine l_offg hF ((wanted_of hF rfl rfl rfl rfl).trans rfl) rfl rfl ?_; clear hF; intro a hF
  refine l_offg hF ((wanted_of hF rfl rfl rfl rfl).trans rfl) rfl rfl ?_; clear hF; intro a hF
  refine l_offg hF ((wanted_of hF rfl rfl rfl rfl).trans rfl) rfl rfl ?_; clear hF; intro a hF
  refine l_offg hF ((wanted_of hF rfl rfl rfl rfl).trans rfl) rfl rfl ?_; clear hF; intro a hF
  refine l_offg hF ((wanted_of hF rfl rfl rfl rfl).trans rfl) rfl rfl ?_; clear hF; intro a hF
  refine l_at hF rfl rfl rfl (x_pickF (hF.tmp 23 rfl) rfl rfl) ?_; clear hF; intro a hF
  refine l_at hF rfl rfl rfl (x_move (hF.tmp 29 rfl)) ?_; clear hF; intro a hF
  refine l_offg hF ((wanted_of hF rfl rfl rfl rfl).trans rfl) rfl rfl ?_; clear hF; intro a hF
  refine l_at hF rfl rfl rfl (x_pickF (hF.tmp 30 rfl) rfl rfl) ?_; clear hF; intro a hF
  refine l_at hF rfl rfl rfl (x_assign (hF.tmp 32 rfl)) ?_; clear hF; intro a hF
  refine wpList_nil ?_
  refine hK3 _ _ ?_
  refine wp_ret ?_
  try simp only [Exit.then, Exit.inBlock]
  have hv : false = decide (p = q) := by rw [Bool.eq_iff_iff]; simp only [decide_eq_true_iff, opd_same]; first | (simp [hc16]; done) | (simp [hc16]; omega)
  exact fin_ret hF (res1 (v := .bool false) hF rfl rfl) ⟨by rw [hv], hH.mods⟩
set_option maxRecDepth 100000 in
set_option maxHeartbeats 1000000 in
theorem sameOs_calls (w0 : World) {ok1 : Nat → Prop} {A1 : Option Addr} {xs1 : List OpD} {c1 : Nat} (hr1 : Rd OpdE w0 ok1 A1 xs1 c1) {ok2 : Nat → Prop} {A2 : Option Addr} {xs2 : List OpD} {c2 : Nat} (hr2 : Rd OpdE w0 ok2 A2 xs2 c2) (hb1 : ∀ c ∈ xs1, OpB c) (hb2 : ∀ c ∈ xs2, OpB c) : Calls Tryd.prog 22 #[.slice A1 xs1.length c1, .slice A2 xs2.length c2] w0 fun e w' => e = .returned (.bool (decide (xs1 = xs2))) ∧ Mods (fun _ => False) w0 w' := by
 refine calls_of_wp Tryd.func22 rfl ?_
 have hF := Fr.enter #[.slice A1 xs1.length c1, .slice A2 xs2.length c2] 29 (slotsOf [.slice A1 xs1.length c1, .slice A2 xs2.length c2] 0) (Nat.le_of_ble_eq_true rfl) (fun i v h => by have h2 := (get_slotsOf _ 0 i v h).2; simpa only [List.getElem?_toArray, Nat.sub_zero] using h2)
 have hH := Hp.nil (fun _ => False) w0
 rw [Tryd.ntmps22]
 revert hF; generalize (⟨(#[.slice A1 xs1.length c1, .slice A2 xs2.length c2] : Array Value) ++ Array.replicate (29 - (#[.slice A1 xs1.length c1, .slice A2 xs2.length c2] : Array Value).size) undef, []⟩ : Act) = a; intro hF
 have hH := hH.arg 901 hr1.all (fun _ h => ⟨h, fun h => h⟩)
 have hle901 := hr1.le; unfold maxLen at hle901
 have hH := hH.arg 902 hr2.all (fun _ h => ⟨h, fun h => h⟩)
 have hle902 := hr2.le; unfold maxLen at hle902
 refine wp_seq_k fun khK1 hK1 => ?_
 refine wp_region_lit ?_
 refine l_at hF rfl rfl rfl (x_assign rfl) ?_; clear hF; intro a hF
 refine wpList_nil ?_
 refine hK1 _ _ ?_
 refine wp_seq_k fun khK2 hK2 => ?_
 refine wp_seq_k fun khK3 hK3 => ?_
 refine wp_region_lit ?_
 refine l_at hF rfl rfl rfl (x_move (hF.tmp 0 rfl)) ?_; clear hF; intro a hF
 refine l_at hF rfl rfl rfl (x_len_slice Tryd.underlying43 (hF.tmp 7 rfl)) ?_; clear hF; intro a hF
 refine l_at hF rfl rfl rfl (x_move (hF.tmp 1 rfl)) ?_; clear hF; intro a hF
 refine l_at hF rfl rfl rfl (x_len_slice Tryd.underlying43 (hF.tmp 9 rfl)) ?_; clear hF; intro a hF
 refine l_at hF rfl rfl rfl (x_neq (hF.tmp 8 rfl) (hF.tmp 10 rfl)) ?_; clear hF; intro a hF
 refine wpList_nil ?_
 refine hK3 _ _ ?_
 refine wp_cond_split (hF.tmp 11 rfl) (fun hc11 => ?_) (fun hc11 => ?_)
 ·have hk11_1 := hc11; try simp only [Bool.or_eq_true, Bool.and_eq_true, Bool.or_eq_false_iff, Bool.and_eq_false_iff, Bool.not_eq_true', Bool.not_eq_false', decide_eq_true_eq, decide_eq_false_iff_not, Bool.not_true, Bool.not_false] at hc11
  have hz := same_len (xs := xs1) (ys := xs2) (by omega)
  refine wp_seq_k fun khK4 hK4 => ?_
  refine wp_region_lit ?_
  refine l_at hF rfl rfl rfl (x_assign rfl) ?_; clear hF; intro a hF
  refine wpList_nil ?_
  refine hK4 _ _ ?_
  refine wp_ret ?_
  try simp only [Exit.then, Exit.inBlock]
  exact fin_ret hF (res1 hF rfl rfl) ⟨by rw [hz] <;> rfl, hH.mods⟩
 ·have hk11_2 := hc11; try simp only [Bool.or_eq_true, Bool.and_eq_true, Bool.or_eq_false_iff, Bool.and_eq_false_iff, Bool.not_eq_true', Bool.not_eq_false', decide_eq_true_eq, decide_eq_false_iff_not, Bool.not_true, Bool.not_false] at hc11
  have hll : (xs1.length : Int) = xs2.length := by omega
  refine wp_skip ?_
  refine hK2 _ _ ?_
  refine wp_seq_k fun khK5 hK5 => ?_
  refine wp_seq_k fun khK6 hK6 => ?_
  refine wp_region_lit ?_
  refine l_at hF rfl rfl rfl (x_assign rfl) ?_; clear hF; intro a hF
  refine wpList_nil ?_
  refine hK6 _ _ ?_
  refine wp_block ?_
  refine wp_loop_ghost (fun n_ a w => ∃ k : Nat, n_ = xs1.length - k ∧ (k ≤ xs1.length) ∧ (xs1.take k = xs2.take k) ∧ Fr 29 a [(0, .slice A1 xs1.length c1), (1, .slice A2 xs2.length c2), (5, .int .i64 (k : Int))] ∧ Hp (fun _ => False) w0 w [(901, .rd_ OpdE A1 xs1 c1 (fun k => k < w0.heap.size)), (902, .rd_ OpdE A2 xs2 c2 (fun k => k < w0.heap.size))]) (xs1.length) ?_ ?_
  ·exact ⟨0, rfl, by omega, rfl, (((hF.bare.add hF 5 rfl).add hF 1 rfl).add hF 0 rfl), hH.sub _ (sub_cons (sub_cons (sub_nil _) 902 rfl) 901 rfl)⟩
  ·rintro _ a w ⟨k, rfl, hq0_0, hq0_1, hF, hH⟩
   refine wp_seq_k fun khK7 hK7 => ?_
   refine wp_seq_k fun khK8 hK8 => ?_
   refine wp_region_lit ?_
   refine l_at hF rfl rfl rfl (x_move (hF.tmp 5 rfl)) ?_; clear hF; intro a hF
   refine l_at hF rfl rfl rfl (x_move (hF.tmp 0 rfl)) ?_; clear hF; intro a hF
   refine l_at hF rfl rfl rfl (x_len_slice Tryd.underlying43 (hF.tmp 13 rfl)) ?_; clear hF; intro a hF
   refine l_at hF rfl rfl rfl (x_lss (hF.tmp 12 rfl) (hF.tmp 14 rfl)) ?_; clear hF; intro a hF
   refine wpList_nil ?_
   refine hK8 _ _ ?_
   refine wp_cond_split (hF.tmp 15 rfl) (fun hc15 => ?_) (fun hc15 => ?_)
   ·have hk15_3 := hc15; try simp only [Bool.or_eq_true, Bool.and_eq_true, Bool.or_eq_false_iff, Bool.and_eq_false_iff, Bool.not_eq_true', Bool.not_eq_false', decide_eq_true_eq, decide_eq_false_iff_not, Bool.not_true, Bool.not_false] at hc15
    obtain ⟨fA1, fc1, hfr1, hf1_0, hf1_1, hf1_2, hf1_3, hf1_4, hf1_5, hf1_6, hf1_7, hf1_8, hf1_9, hf1_10, hfw1⟩ := rd_opd ((hH.rd 901 rfl)) (gopd_some (xs := xs1) (i := (k : Int)) (by omega) (by omega))
    have hH := hH.subrd 901 rfl 1010 hfr1 (fun _ h => h)
    have hH := hH.subcels 901 rfl 1499 hfw1 (Rd.inok ((hH.rd 901 rfl)) (by omega) _)
    have hH := hH.subcel 901 rfl 1500 hf1_0 (Rd.inok ((hH.rd 901 rfl)) (by omega) _)
    have hH := hH.subcel 901 rfl 1501 hf1_1 (Rd.inok ((hH.rd 901 rfl)) (by omega) _)
    have hH := hH.subcel 901 rfl 1502 hf1_2 (Rd.inok ((hH.rd 901 rfl)) (by omega) _)
    have hH := hH.subcel 901 rfl 1503 hf1_3 (Rd.inok ((hH.rd 901 rfl)) (by omega) _)
    have hH := hH.subcel 901 rfl 1504 hf1_4 (Rd.inok ((hH.rd 901 rfl)) (by omega) _)
    have hH := hH.subcel 901 rfl 1505 hf1_5 (Rd.inok ((hH.rd 901 rfl)) (by omega) _)
    have hH := hH.subcel 901 rfl 1506 hf1_6 (Rd.inok ((hH.rd 901 rfl)) (by omega) _)
    have hH := hH.subcel 901 rfl 1507 hf1_7 (Rd.inok ((hH.rd 901 rfl)) (by omega) _)
    have hH := hH.subcel 901 rfl 1508 hf1_8 (Rd.inok ((hH.rd 901 rfl)) (by omega) _)
    have hH := hH.subcel 901 rfl 1509 hf1_9 (Rd.inok ((hH.rd 901 rfl)) (by omega) _)
    have hH := hH.subcel 901 rfl 1510 hf1_10 (Rd.inok ((hH.rd 901 rfl)) (by omega) _)
    obtain ⟨fA2, fc2, hfr2, hf2_0, hf2_1, hf2_2, hf2_3, hf2_4, hf2_5, hf2_6, hf2_7, hf2_8, hf2_9, hf2_10, hfw2⟩ := rd_opd ((hH.rd 902 rfl)) (gopd_some (xs := xs2) (i := (k : Int)) (by omega) (by omega))
    have hH := hH.subrd 902 rfl 2010 hfr2 (fun _ h => h)
    have hH := hH.subcels 902 rfl 2499 hfw2 (Rd.inok ((hH.rd 902 rfl)) (by omega) _)
    have hH := hH.subcel 902 rfl 2500 hf2_0 (Rd.inok ((hH.rd 902 rfl)) (by omega) _)
    have hH := hH.subcel 902 rfl 2501 hf2_1 (Rd.inok ((hH.rd 902 rfl)) (by omega) _)
    have hH := hH.subcel 902 rfl 2502 hf2_2 (Rd.inok ((hH.rd 902 rfl)) (by omega) _)
    have hH := hH.subcel 902 rfl 2503 hf2_3 (Rd.inok ((hH.rd 902 rfl)) (by omega) _)
    have hH := hH.subcel 902 rfl 2504 hf2_4 (Rd.inok ((hH.rd 902 rfl)) (by omega) _)
    have hH := hH.subcel 902 rfl 2505 hf2_5 (Rd.inok ((hH.rd 902 rfl)) (by omega) _)
    have hH := hH.subcel 902 rfl 2506 hf2_6 (Rd.inok ((hH.rd 902 rfl)) (by omega) _)
    have hH := hH.subcel 902 rfl 2507 hf2_7 (Rd.inok ((hH.rd 902 rfl)) (by omega) _)
    have hH := hH.subcel 902 rfl 2508 hf2_8 (Rd.inok ((hH.rd 902 rfl)) (by omega) _)
    have hH := hH.subcel 902 rfl 2509 hf2_9 (Rd.inok ((hH.rd 902 rfl)) (by omega) _)
    have hH := hH.subcel 902 rfl 2510 hf2_10 (Rd.inok ((hH.rd 902 rfl)) (by omega) _)
    have hm1 := gopd_mem (xs := xs1) (j := k) (by omega)
    have hm2 := gopd_mem (xs := xs2) (j := k) (by omega)
    refine wp_skip ?_
    refine hK7 _ _ ?_
    refine wp_seq_k fun khK9 hK9 => ?_
    refine wp_block ?_
    refine wp_seq_k fun khK10 hK10 => ?_
    refine r_start [(901, .rd_ OpdE A1 xs1 c1 (fun k => k < w0.heap.size)), (902, .rd_ OpdE A2 xs2 c2 (fun k => k < w0.heap.size)), (1010, .rd_ StE (fA1) (gopd xs1 (k : Int)).timer.steps fc1 (fun k => k < w0.heap.size)), (1499, .cels (adr A1 (Int.toNat (k : Int) * 11)) #[.int .i64 (gopd xs1 (k : Int)).kind, .string (strOfNums (gopd xs1 (k : Int)).key), .int .i64 (gopd xs1 (k : Int)).step.1, .string (strOfNums (gopd xs1 (k : Int)).step.2.1), .string (strOfNums (gopd xs1 (k : Int)).step.2.2.1), .int .i64 (gopd xs1 (k : Int)).step.2.2.2, .string (strOfNums (gopd xs1 (k : Int)).timer.name), .int .i64 (gopd xs1 (k : Int)).timer.ver, .int .u64 (gopd xs1 (k : Int)).timer.tick, .int .u64 (gopd xs1 (k : Int)).timer.every, .slice fA1 (gopd xs1 (k : Int)).timer.steps.length fc1]), (1500, .cel (adr A1 (Int.toNat (k : Int) * 11)) (.int .i64 (gopd xs1 (k : Int)).kind)), (1501, .cel (adr A1 (Int.toNat (k : Int) * 11 + 1)) (.string (strOfNums (gopd xs1 (k : Int)).key))), (1502, .cel (adr A1 (Int.toNat (k : Int) * 11 + 2)) (.int .i64 (gopd xs1 (k : Int)).step.1)), (1503, .cel (adr A1 (Int.toNat (k : Int) * 11 + 3)) (.string (strOfNums (gopd xs1 (k : Int)).step.2.1))), (1504, .cel (adr A1 (Int.toNat (k : Int) * 11 + 4)) (.string (strOfNums (gopd xs1 (k : Int)).step.2.2.1))), (1505, .cel (adr A1 (Int.toNat (k : Int) * 11 + 5)) (.int .i64 (gopd xs1 (k : Int)).step.2.2.2)), (1506, .cel (adr A1 (Int.toNat (k : Int) * 11 + 6)) (.string (strOfNums (gopd xs1 (k : Int)).timer.name))), (1507, .cel (adr A1 (Int.toNat (k : Int) * 11 + 7)) (.int .i64 (gopd xs1 (k : Int)).timer.ver)), (1508, .cel (adr A1 (Int.toNat (k : Int) * 11 + 8)) (.int .u64 (gopd xs1 (k : Int)).timer.tick)), (1509, .cel (adr A1 (Int.toNat (k : Int) * 11 + 9)) (.int .u64 (gopd xs1 (k : Int)).timer.every)), (1510, .cel (adr A1 (Int.toNat (k : Int) * 11 + 10)) (.slice fA1 (gopd xs1 (k : Int)).timer.steps.length fc1)), (2010, .rd_ StE (fA2) (gopd xs2 (k : Int)).timer.steps fc2 (fun k => k < w0.heap.size)), (2499, .cels (adr A2 (Int.toNat (k : Int) * 11)) #[.int .i64 (gopd xs2 (k : Int)).kind, .string (strOfNums (gopd xs2 (k : Int)).key), .int .i64 (gopd xs2 (k : Int)).step.1, .string (strOfNums (gopd xs2 (k : Int)).step.2.1), .string (strOfNums (gopd xs2 (k : Int)).step.2.2.1), .int .i64 (gopd xs2 (k : Int)).step.2.2.2, .string (strOfNums (gopd xs2 (k : Int)).timer.name), .int .i64 (gopd xs2 (k : Int)).timer.ver, .int .u64 (gopd xs2 (k : Int)).timer.tick, .int .u64 (gopd xs2 (k : Int)).timer.every, .slice fA2 (gopd xs2 (k : Int)).timer.steps.length fc2]), (2500, .cel (adr A2 (Int.toNat (k : Int) * 11)) (.int .i64 (gopd xs2 (k : Int)).kind)), (2501, .cel (adr A2 (Int.toNat (k : Int) * 11 + 1)) (.string (strOfNums (gopd xs2 (k : Int)).key))), (2502, .cel (adr A2 (Int.toNat (k : Int) * 11 + 2)) (.int .i64 (gopd xs2 (k : Int)).step.1)), (2503, .cel (adr A2 (Int.toNat (k : Int) * 11 + 3)) (.string (strOfNums (gopd xs2 (k : Int)).step.2.1))), (2504, .cel (adr A2 (Int.toNat (k : Int) * 11 + 4)) (.string (strOfNums (gopd xs2 (k : Int)).step.2.2.1))), (2505, .cel (adr A2 (Int.toNat (k : Int) * 11 + 5)) (.int .i64 (gopd xs2 (k : Int)).step.2.2.2)), (2506, .cel (adr A2 (Int.toNat (k : Int) * 11 + 6)) (.string (strOfNums (gopd xs2 (k : Int)).timer.name))), (2507, .cel (adr A2 (Int.toNat (k : Int) * 11 + 7)) (.int .i64 (gopd xs2 (k : Int)).timer.ver)), (2508, .cel (adr A2 (Int.toNat (k : Int) * 11 + 8)) (.int .u64 (gopd xs2 (k : Int)).timer.tick)), (2509, .cel (adr A2 (Int.toNat (k : Int) * 11 + 9)) (.int .u64 (gopd xs2 (k : Int)).timer.every)), (2510, .cel (adr A2 (Int.toNat (k : Int) * 11 + 10)) (.slice fA2 (gopd xs2 (k : Int)).timer.steps.length fc2))] (by kernel_rfl) hH fun hH => ?_
    have hS : SL [(901, .rd_ OpdE A1 xs1 c1 (fun k => k < w0.heap.size)), (902, .rd_ OpdE A2 xs2 c2 (fun k => k < w0.heap.size)), (1010, .rd_ StE (fA1) (gopd xs1 (k : Int)).timer.steps fc1 (fun k => k < w0.heap.size)), (1499, .cels (adr A1 (Int.toNat (k : Int) * 11)) #[.int .i64 (gopd xs1 (k : Int)).kind, .string (strOfNums (gopd xs1 (k : Int)).key), .int .i64 (gopd xs1 (k : Int)).step.1, .string (strOfNums (gopd xs1 (k : Int)).step.2.1), .string (strOfNums (gopd xs1 (k : Int)).step.2.2.1), .int .i64 (gopd xs1 (k : Int)).step.2.2.2, .string (strOfNums (gopd xs1 (k : Int)).timer.name), .int .i64 (gopd xs1 (k : Int)).timer.ver, .int .u64 (gopd xs1 (k : Int)).timer.tick, .int .u64 (gopd xs1 (k : Int)).timer.every, .slice fA1 (gopd xs1 (k : Int)).timer.steps.length fc1]), (1500, .cel (adr A1 (Int.toNat (k : Int) * 11)) (.int .i64 (gopd xs1 (k : Int)).kind)), (1501, .cel (adr A1 (Int.toNat (k : Int) * 11 + 1)) (.string (strOfNums (gopd xs1 (k : Int)).key))), (1502, .cel (adr A1 (Int.toNat (k : Int) * 11 + 2)) (.int .i64 (gopd xs1 (k : Int)).step.1)), (1503, .cel (adr A1 (Int.toNat (k : Int) * 11 + 3)) (.string (strOfNums (gopd xs1 (k : Int)).step.2.1))), (1504, .cel (adr A1 (Int.toNat (k : Int) * 11 + 4)) (.string (strOfNums (gopd xs1 (k : Int)).step.2.2.1))), (1505, .cel (adr A1 (Int.toNat (k : Int) * 11 + 5)) (.int .i64 (gopd xs1 (k : Int)).step.2.2.2)), (1506, .cel (adr A1 (Int.toNat (k : Int) * 11 + 6)) (.string (strOfNums (gopd xs1 (k : Int)).timer.name))), (1507, .cel (adr A1 (Int.toNat (k : Int) * 11 + 7)) (.int .i64 (gopd xs1 (k : Int)).timer.ver)), (1508, .cel (adr A1 (Int.toNat (k : Int) * 11 + 8)) (.int .u64 (gopd xs1 (k : Int)).timer.tick)), (1509, .cel (adr A1 (Int.toNat (k : Int) * 11 + 9)) (.int .u64 (gopd xs1 (k : Int)).timer.every)), (1510, .cel (adr A1 (Int.toNat (k : Int) * 11 + 10)) (.slice fA1 (gopd xs1 (k : Int)).timer.steps.length fc1)), (2010, .rd_ StE (fA2) (gopd xs2 (k : Int)).timer.steps fc2 (fun k => k < w0.heap.size)), (2499, .cels (adr A2 (Int.toNat (k : Int) * 11)) #[.int .i64 (gopd xs2 (k : Int)).kind, .string (strOfNums (gopd xs2 (k : Int)).key), .int .i64 (gopd xs2 (k : Int)).step.1, .string (strOfNums (gopd xs2 (k : Int)).step.2.1), .string (strOfNums (gopd xs2 (k : Int)).step.2.2.1), .int .i64 (gopd xs2 (k : Int)).step.2.2.2, .string (strOfNums (gopd xs2 (k : Int)).timer.name), .int .i64 (gopd xs2 (k : Int)).timer.ver, .int .u64 (gopd xs2 (k : Int)).timer.tick, .int .u64 (gopd xs2 (k : Int)).timer.every, .slice fA2 (gopd xs2 (k : Int)).timer.steps.length fc2]), (2500, .cel (adr A2 (Int.toNat (k : Int) * 11)) (.int .i64 (gopd xs2 (k : Int)).kind)), (2501, .cel (adr A2 (Int.toNat (k : Int) * 11 + 1)) (.string (strOfNums (gopd xs2 (k : Int)).key))), (2502, .cel (adr A2 (Int.toNat (k : Int) * 11 + 2)) (.int .i64 (gopd xs2 (k : Int)).step.1)), (2503, .cel (adr A2 (Int.toNat (k : Int) * 11 + 3)) (.string (strOfNums (gopd xs2 (k : Int)).step.2.1))), (2504, .cel (adr A2 (Int.toNat (k : Int) * 11 + 4)) (.string (strOfNums (gopd xs2 (k : Int)).step.2.2.1))), (2505, .cel (adr A2 (Int.toNat (k : Int) * 11 + 5)) (.int .i64 (gopd xs2 (k : Int)).step.2.2.2)), (2506, .cel (adr A2 (Int.toNat (k : Int) * 11 + 6)) (.string (strOfNums (gopd xs2 (k : Int)).timer.name))), (2507, .cel (adr A2 (Int.toNat (k : Int) * 11 + 7)) (.int .i64 (gopd xs2 (k : Int)).timer.ver)), (2508, .cel (adr A2 (Int.toNat (k : Int) * 11 + 8)) (.int .u64 (gopd xs2 (k : Int)).timer.tick)), (2509, .cel (adr A2 (Int.toNat (k : Int) * 11 + 9)) (.int .u64 (gopd xs2 (k : Int)).timer.every)), (2510, .cel (adr A2 (Int.toNat (k : Int) * 11 + 10)) (.slice fA2 (gopd xs2 (k : Int)).timer.steps.length fc2))] _ := SL.of hH (sub_cons (sub_cons (sub_cons (sub_cons (sub_cons (sub_cons (sub_cons (sub_cons (sub_cons (sub_cons (sub_cons (sub_cons (sub_cons (sub_cons (sub_cons (sub_cons (sub_cons (sub_cons (sub_cons (sub_cons (sub_cons (sub_cons (sub_cons (sub_cons (sub_cons (sub_cons (sub_cons (sub_cons (sub_nil _) 2510 rfl) 2509 rfl) 2508 rfl) 2507 rfl) 2506 rfl) 2505 rfl) 2504 rfl) 2503 rfl) 2502 rfl) 2501 rfl) 2500 rfl) 2499 rfl) 2010 rfl) 1510 rfl) 1509 rfl) 1508 rfl) 1507 rfl) 1506 rfl) 1505 rfl) 1504 rfl) 1503 rfl) 1502 rfl) 1501 rfl) 1500 rfl) 1499 rfl) 1010 rfl) 902 rfl) 901 rfl)
    refine r_take 0 hF rfl rfl rfl (by kernel_rfl) (by kernel_rfl) (by kernel_rfl) (fun _ _ _ h => h) rfl hS (fun w hS => x_move (hF.tmp 0 rfl)) rfl ?_; clear hF; intro a hF
    refine r_take 1 hF rfl rfl rfl (by kernel_rfl) (by kernel_rfl) (by kernel_rfl) (fun _ _ _ h => h) rfl hS (fun w hS => x_move (hF.tmp 5 rfl)) rfl ?_; clear hF; intro a hF
    refine r_take 2 hF rfl rfl rfl (by kernel_rfl) (by kernel_rfl) (by kernel_rfl) (fun _ _ _ h => h) rfl hS (fun w hS => x_iaddr_A Tryd.underlying43 ty55 ((hH.rd 901 rfl)) (hF.tmp 18 rfl) (hF.tmp 19 rfl) (by omega) (by omega) _) rfl ?_; clear hF; intro a hF
    refine r_take 3 hF rfl rfl rfl (by kernel_rfl) (by kernel_rfl) (by kernel_rfl) (fun _ _ _ h => h) rfl hS (fun w hS => x_loadn ty55 (hF.tmp 20 rfl) rfl (hS 1499 _ rfl)) rfl ?_; clear hF; intro a hF
    refine r_take 4 hF rfl rfl rfl (by kernel_rfl) (by kernel_rfl) (by kernel_rfl) (fun _ _ _ h => h) rfl hS (fun w hS => x_move (hF.tmp 1 rfl)) rfl ?_; clear hF; intro a hF
    refine r_take 5 hF rfl rfl rfl (by kernel_rfl) (by kernel_rfl) (by kernel_rfl) (fun _ _ _ h => h) rfl hS (fun w hS => x_move (hF.tmp 5 rfl)) rfl ?_; clear hF; intro a hF
    refine r_take 6 hF rfl rfl rfl (by kernel_rfl) (by kernel_rfl) (by kernel_rfl) (fun _ _ _ h => h) rfl hS (fun w hS => x_iaddr_A Tryd.underlying43 ty55 ((hH.rd 902 rfl)) (hF.tmp 22 rfl) (hF.tmp 23 rfl) (by omega) (by omega) _) rfl ?_; clear hF; intro a hF
    refine r_take 7 hF rfl rfl rfl (by kernel_rfl) (by kernel_rfl) (by kernel_rfl) (fun _ _ _ h => h) rfl hS (fun w hS => x_loadn ty55 (hF.tmp 24 rfl) rfl (hS 2499 _ rfl)) rfl ?_; clear hF; intro a hF
    refine r_do 8 rfl (by kernel_rfl) rfl rfl ?_
    refine w_call hF (x_enter Tryd.func57 (by kernel_rfl) rfl (by simp only [List.map_toArray, List.map_cons, List.map_nil, hF.tmp 21 rfl, hF.tmp 25 rfl] <;> rfl)) (sameO_calls _ ((hH.rd 1010 rfl)) ((hH.rd 2010 rfl)) (hb1 _ hm1) (hb2 _ hm2)) rfl rfl ?_
    rintro _ w ⟨rfl, hm_⟩; refine ⟨_, rfl, ?_⟩; clear hF; intro a hF; have hH := hH.same hm_
    clear hS; have hS : SL _ _ := SL.of hH (sub_cons (sub_cons (sub_cons (sub_cons (sub_cons (sub_cons (sub_cons (sub_cons (sub_cons (sub_cons (sub_cons (sub_cons (sub_cons (sub_cons (sub_cons (sub_cons (sub_cons (sub_cons (sub_cons (sub_cons (sub_cons (sub_cons (sub_cons (sub_cons (sub_cons (sub_cons (sub_cons (sub_cons (sub_nil _) 2510 rfl) 2509 rfl) 2508 rfl) 2507 rfl) 2506 rfl) 2505 rfl) 2504 rfl) 2503 rfl) 2502 rfl) 2501 rfl) 2500 rfl) 2499 rfl) 2010 rfl) 1510 rfl) 1509 rfl) 1508 rfl) 1507 rfl) 1506 rfl) 1505 rfl) 1504 rfl) 1503 rfl) 1502 rfl) 1501 rfl) 1500 rfl) 1499 rfl) 1010 rfl) 902 rfl) 901 rfl); refine ⟨hS, ?_⟩
    refine r_take 9 hF rfl rfl rfl (by kernel_rfl) (by kernel_rfl) (by kernel_rfl) (fun _ _ _ h => h) rfl hS (fun w hS => x_assign (hF.tmp 26 rfl)) rfl ?_; clear hF; intro a hF
    refine r_end (by kernel_rfl) ?_; clear hS
    refine hK10 _ _ ?_
    refine wp_seq_k fun khK11 hK11 => ?_
    refine wp_region_lit ?_
    refine l_at hF rfl rfl rfl (x_move (hF.tmp 6 rfl)) ?_; clear hF; intro a hF
    refine l_at hF rfl rfl rfl (x_not (hF.tmp 27 rfl)) ?_; clear hF; intro a hF
    refine wpList_nil ?_
    refine hK11 _ _ ?_
    refine wp_cond_split (hF.tmp 28 rfl) (fun hc28 => ?_) (fun hc28 => ?_)
    ·have hk28_4 := hc28; try simp only [Bool.or_eq_true, Bool.and_eq_true, Bool.or_eq_false_iff, Bool.and_eq_false_iff, Bool.not_eq_true', Bool.not_eq_false', decide_eq_true_eq, decide_eq_false_iff_not, Bool.not_true, Bool.not_false] at hc28
     have hz := same_at (xs := xs1) (ys := xs2) (fun l => gopd l (k : Int)) hc28
     refine wp_seq_k fun khK12 hK12 => ?_
     refine wp_region_lit ?_
     refine l_at hF rfl rfl rfl (x_assign rfl) ?_; clear hF; intro a hF
     refine wpList_nil ?_
     refine hK12 _ _ ?_
     refine wp_ret ?_
     try simp only [Exit.then, Exit.inBlock]
     exact fin_ret hF (res1 hF rfl rfl) ⟨by rw [hz] <;> rfl, hH.mods⟩
    ·have hk28_5 := hc28; try simp only [Bool.or_eq_true, Bool.and_eq_true, Bool.or_eq_false_iff, Bool.and_eq_false_iff, Bool.not_eq_true', Bool.not_eq_false', decide_eq_true_eq, decide_eq_false_iff_not, Bool.not_true, Bool.not_false] at hc28
     refine wp_skip ?_
     refine hK9 _ _ ?_
     refine wp_region_lit ?_
     refine l_at hF rfl rfl rfl (x_move (hF.tmp 5 rfl)) ?_; clear hF; intro a hF
     refine l_at hF rfl rfl rfl (x_add (hF.tmp 16 rfl) rfl (w64 (by omega) (by omega))) ?_; clear hF; intro a hF
     refine l_at hF rfl rfl rfl (x_assign (hF.tmp 17 rfl)) ?_; clear hF; intro a hF
     refine wpList_nil ?_
     exact ⟨_, by omega, ⟨k + 1, rfl, by omega, same_step (gopd_some (xs := xs1) (i := (k : Int)) (by omega) (by omega)) (gopd_some (xs := xs2) (i := (k : Int)) (by omega) (by omega)) hq0_1 hc28, (((hF.bare.add hF 5 rfl).add hF 1 rfl).add hF 0 rfl), hH.sub _ (sub_cons (sub_cons (sub_nil _) 902 rfl) 901 rfl)⟩⟩
   ·have hk15_6 := hc15; try simp only [Bool.or_eq_true, Bool.and_eq_true, Bool.or_eq_false_iff, Bool.and_eq_false_iff, Bool.not_eq_true', Bool.not_eq_false', decide_eq_true_eq, decide_eq_false_iff_not, Bool.not_true, Bool.not_false] at hc15
    have hz := same_yes (xs := xs1) (ys := xs2) (k := k) (by omega) hll hq0_1
    refine wp_exit ?_
    refine hK5 _ _ ?_
    refine wp_seq_k fun khK13 hK13 => ?_
    refine wp_region_lit ?_
    refine l_at hF rfl rfl rfl (x_assign rfl) ?_; clear hF; intro a hF
    refine wpList_nil ?_
    refine hK13 _ _ ?_
    refine wp_ret ?_
    try simp only [Exit.then, Exit.inBlock]
    exact fin_ret hF (res1 hF rfl rfl) ⟨by rw [hz] <;> rfl, hH.mods⟩
end Go.Proofs.YtiiklnghnifmjaaDoor.Act
