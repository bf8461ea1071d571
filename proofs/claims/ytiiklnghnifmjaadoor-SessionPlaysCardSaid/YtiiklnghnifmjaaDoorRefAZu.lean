/- Requests as the document has them, walked. -/
import Derived.Test.YtiiklnghnifmjaaDoorSesAZu
import Derived.Test.YtiiklnghnifmjaaDoorRefDZu
set_option linter.unusedVariables false
set_option linter.unusedSimpArgs false
namespace Go.Proofs.YtiiklnghnifmjaaDoor.Act
open Go.RowKit Go.Proofs.YtiiklnghnifmjaaDoor.Sx Go.Proofs.YtiiklnghnifmjaaDoor.Cod Go.Proofs.YtiiklnghnifmjaaDoor.Num
theorem ty81 : TyI Tryd.prog 81 (.agg #[.string (strOfNums []), .int .i64 0, .slice none 0 0]) 3 48 true := ⟨by kernel_rfl, _, Tryd.underlying81, rfl⟩
set_option maxRecDepth 100000 in
set_option maxHeartbeats 1000000 in
theorem r9same_calls (w0 : World) {ok1 : Nat → Prop} {A1 : Option Addr} {xs1 : List StepD} {c1 : Nat} (hr1 : Rd StE w0 ok1 A1 xs1 c1) {ok2 : Nat → Prop} {A2 : Option Addr} {xs2 : List StepD} {c2 : Nat} (hr2 : Rd StE w0 ok2 A2 xs2 c2) (hb1 : ∀ s ∈ xs1, StepB s) (hb2 : ∀ s ∈ xs2, StepB s) : Calls Tryd.prog 105 #[.slice A1 xs1.length c1, .slice A2 xs2.length c2] w0 fun e w' => e = .returned (.bool (decide (xs1 = xs2))) ∧ Mods (fun _ => False) w0 w' := by
 refine calls_of_wp Tryd.func105 rfl ?_
 have hF := Fr.enter #[.slice A1 xs1.length c1, .slice A2 xs2.length c2] 26 (slotsOf [.slice A1 xs1.length c1, .slice A2 xs2.length c2] 0) (Nat.le_of_ble_eq_true rfl) (fun i v h => by have h2 := (get_slotsOf _ 0 i v h).2; simpa only [List.getElem?_toArray, Nat.sub_zero] using h2)
 have hH := Hp.nil (fun _ => False) w0
 rw [Tryd.ntmps105]
 revert hF; generalize (⟨(#[.slice A1 xs1.length c1, .slice A2 xs2.length c2] : Array Value) ++ Array.replicate (26 - (#[.slice A1 xs1.length c1, .slice A2 xs2.length c2] : Array Value).size) undef, []⟩ : Act) = a; intro hF
 have hH := hH.arg 901 hr1.all (fun _ h => ⟨h, fun h => h⟩)
 have hle901 := hr1.le; unfold maxLen at hle901
 have hH := hH.arg 902 hr2.all (fun _ h => ⟨h, fun h => h⟩)
 have hle902 := hr2.le; unfold maxLen at hle902
 refine wp_seq_k fun khK1 hK1 => ?_
 refine wp_region_lit ?_
 refine l_at hF rfl rfl rfl (x_assign rfl) ?_; clear hF; intro a hF
 refine wpList_nil ?_
 refine hK1 _ _ ?_
 refine wp_seq_k fun khK2 hK2 => ?_
 refine wp_seq_k fun khK3 hK3 => ?_
 refine wp_region_lit ?_
 refine l_at hF rfl rfl rfl (x_move (hF.tmp 0 rfl)) ?_; clear hF; intro a hF
 refine l_at hF rfl rfl rfl (x_len_slice Tryd.underlying37 (hF.tmp 6 rfl)) ?_; clear hF; intro a hF
 refine l_at hF rfl rfl rfl (x_move (hF.tmp 1 rfl)) ?_; clear hF; intro a hF
 refine l_at hF rfl rfl rfl (x_len_slice Tryd.underlying37 (hF.tmp 8 rfl)) ?_; clear hF; intro a hF
 refine l_at hF rfl rfl rfl (x_neq (hF.tmp 7 rfl) (hF.tmp 9 rfl)) ?_; clear hF; intro a hF
 refine wpList_nil ?_
 refine hK3 _ _ ?_
 refine wp_cond_split (hF.tmp 10 rfl) (fun hc10 => ?_) (fun hc10 => ?_)
 ·have hk10_1 := hc10; try simp only [Bool.or_eq_true, Bool.and_eq_true, Bool.or_eq_false_iff, Bool.and_eq_false_iff, Bool.not_eq_true', Bool.not_eq_false', decide_eq_true_eq, decide_eq_false_iff_not, Bool.not_true, Bool.not_false] at hc10
  have hz := same_len (xs := xs1) (ys := xs2) (by omega)
  refine wp_seq_k fun khK4 hK4 => ?_
  refine wp_region_lit ?_
  refine l_at hF rfl rfl rfl (x_assign rfl) ?_; clear hF; intro a hF
  refine wpList_nil ?_
  refine hK4 _ _ ?_
  refine wp_ret ?_
  try simp only [Exit.then, Exit.inBlock]
  exact fin_ret hF (res1 hF rfl rfl) ⟨by rw [hz] <;> rfl, hH.mods⟩
 ·have hk10_2 := hc10; try simp only [Bool.or_eq_true, Bool.and_eq_true, Bool.or_eq_false_iff, Bool.and_eq_false_iff, Bool.not_eq_true', Bool.not_eq_false', decide_eq_true_eq, decide_eq_false_iff_not, Bool.not_true, Bool.not_false] at hc10
  have hll : (xs1.length : Int) = xs2.length := by omega
  refine wp_skip ?_
  refine hK2 _ _ ?_
  refine wp_seq_k fun khK5 hK5 => ?_
  refine wp_seq_k fun khK6 hK6 => ?_
  refine wp_region_lit ?_
  refine l_at hF rfl rfl rfl (x_assign rfl) ?_; clear hF; intro a hF
  refine wpList_nil ?_
  refine hK6 _ _ ?_
  refine wp_block ?_
  refine wp_loop_ghost (fun n_ a w => ∃ k : Nat, n_ = xs1.length - k ∧ (k ≤ xs1.length) ∧ (xs1.take k = xs2.take k) ∧ Fr 26 a [(0, .slice A1 xs1.length c1), (1, .slice A2 xs2.length c2), (5, .int .i64 (k : Int))] ∧ Hp (fun _ => False) w0 w [(901, .rd_ StE A1 xs1 c1 (fun k => k < w0.heap.size)), (902, .rd_ StE A2 xs2 c2 (fun k => k < w0.heap.size))]) (xs1.length) ?_ ?_
  ·exact ⟨0, rfl, by omega, rfl, (((hF.bare.add hF 5 rfl).add hF 1 rfl).add hF 0 rfl), hH.sub _ (sub_cons (sub_cons (sub_nil _) 902 rfl) 901 rfl)⟩
  ·rintro _ a w ⟨k, rfl, hq0_0, hq0_1, hF, hH⟩
   refine wp_seq_k fun khK7 hK7 => ?_
   refine wp_seq_k fun khK8 hK8 => ?_
   refine wp_region_lit ?_
   refine l_at hF rfl rfl rfl (x_move (hF.tmp 5 rfl)) ?_; clear hF; intro a hF
   refine l_at hF rfl rfl rfl (x_move (hF.tmp 0 rfl)) ?_; clear hF; intro a hF
   refine l_at hF rfl rfl rfl (x_len_slice Tryd.underlying37 (hF.tmp 12 rfl)) ?_; clear hF; intro a hF
   refine l_at hF rfl rfl rfl (x_lss (hF.tmp 11 rfl) (hF.tmp 13 rfl)) ?_; clear hF; intro a hF
   refine wpList_nil ?_
   refine hK8 _ _ ?_
   refine wp_cond_split (hF.tmp 14 rfl) (fun hc14 => ?_) (fun hc14 => ?_)
   ·have hk14_3 := hc14; try simp only [Bool.or_eq_true, Bool.and_eq_true, Bool.or_eq_false_iff, Bool.and_eq_false_iff, Bool.not_eq_true', Bool.not_eq_false', decide_eq_true_eq, decide_eq_false_iff_not, Bool.not_true, Bool.not_false] at hc14
    obtain ⟨hf1_0, hf1_1, hf1_2, hf1_3, hfw1⟩ := rd_st ((hH.rd 901 rfl)) (gst_some (xs := xs1) (i := (k : Int)) (by omega) (by omega))
    have hH := hH.subcels 901 rfl 1499 hfw1 (Rd.inok ((hH.rd 901 rfl)) (by omega) _)
    have hH := hH.subcel 901 rfl 1500 hf1_0 (Rd.inok ((hH.rd 901 rfl)) (by omega) _)
    have hH := hH.subcel 901 rfl 1501 hf1_1 (Rd.inok ((hH.rd 901 rfl)) (by omega) _)
    have hH := hH.subcel 901 rfl 1502 hf1_2 (Rd.inok ((hH.rd 901 rfl)) (by omega) _)
    have hH := hH.subcel 901 rfl 1503 hf1_3 (Rd.inok ((hH.rd 901 rfl)) (by omega) _)
    obtain ⟨hf2_0, hf2_1, hf2_2, hf2_3, hfw2⟩ := rd_st ((hH.rd 902 rfl)) (gst_some (xs := xs2) (i := (k : Int)) (by omega) (by omega))
    have hH := hH.subcels 902 rfl 2499 hfw2 (Rd.inok ((hH.rd 902 rfl)) (by omega) _)
    have hH := hH.subcel 902 rfl 2500 hf2_0 (Rd.inok ((hH.rd 902 rfl)) (by omega) _)
    have hH := hH.subcel 902 rfl 2501 hf2_1 (Rd.inok ((hH.rd 902 rfl)) (by omega) _)
    have hH := hH.subcel 902 rfl 2502 hf2_2 (Rd.inok ((hH.rd 902 rfl)) (by omega) _)
    have hH := hH.subcel 902 rfl 2503 hf2_3 (Rd.inok ((hH.rd 902 rfl)) (by omega) _)
    have hm1 := gst_mem (xs := xs1) (j := k) (by omega)
    have hm2 := gst_mem (xs := xs2) (j := k) (by omega)
    refine wp_skip ?_
    refine hK7 _ _ ?_
    refine wp_seq_k fun khK9 hK9 => ?_
    refine wp_block ?_
    refine wp_seq_k fun khK10 hK10 => ?_
    refine r_start [(901, .rd_ StE A1 xs1 c1 (fun k => k < w0.heap.size)), (902, .rd_ StE A2 xs2 c2 (fun k => k < w0.heap.size)), (1499, .cels (adr A1 (Int.toNat (k : Int) * 4)) #[.int .i64 (gst xs1 (k : Int)).1, .string (strOfNums (gst xs1 (k : Int)).2.1), .string (strOfNums (gst xs1 (k : Int)).2.2.1), .int .i64 (gst xs1 (k : Int)).2.2.2]), (1500, .cel (adr A1 (Int.toNat (k : Int) * 4)) (.int .i64 (gst xs1 (k : Int)).1)), (1501, .cel (adr A1 (Int.toNat (k : Int) * 4 + 1)) (.string (strOfNums (gst xs1 (k : Int)).2.1))), (1502, .cel (adr A1 (Int.toNat (k : Int) * 4 + 2)) (.string (strOfNums (gst xs1 (k : Int)).2.2.1))), (1503, .cel (adr A1 (Int.toNat (k : Int) * 4 + 3)) (.int .i64 (gst xs1 (k : Int)).2.2.2)), (2499, .cels (adr A2 (Int.toNat (k : Int) * 4)) #[.int .i64 (gst xs2 (k : Int)).1, .string (strOfNums (gst xs2 (k : Int)).2.1), .string (strOfNums (gst xs2 (k : Int)).2.2.1), .int .i64 (gst xs2 (k : Int)).2.2.2]), (2500, .cel (adr A2 (Int.toNat (k : Int) * 4)) (.int .i64 (gst xs2 (k : Int)).1)), (2501, .cel (adr A2 (Int.toNat (k : Int) * 4 + 1)) (.string (strOfNums (gst xs2 (k : Int)).2.1))), (2502, .cel (adr A2 (Int.toNat (k : Int) * 4 + 2)) (.string (strOfNums (gst xs2 (k : Int)).2.2.1))), (2503, .cel (adr A2 (Int.toNat (k : Int) * 4 + 3)) (.int .i64 (gst xs2 (k : Int)).2.2.2))] (by kernel_rfl) hH fun hH => ?_
    have hS : SL [(901, .rd_ StE A1 xs1 c1 (fun k => k < w0.heap.size)), (902, .rd_ StE A2 xs2 c2 (fun k => k < w0.heap.size)), (1499, .cels (adr A1 (Int.toNat (k : Int) * 4)) #[.int .i64 (gst xs1 (k : Int)).1, .string (strOfNums (gst xs1 (k : Int)).2.1), .string (strOfNums (gst xs1 (k : Int)).2.2.1), .int .i64 (gst xs1 (k : Int)).2.2.2]), (1500, .cel (adr A1 (Int.toNat (k : Int) * 4)) (.int .i64 (gst xs1 (k : Int)).1)), (1501, .cel (adr A1 (Int.toNat (k : Int) * 4 + 1)) (.string (strOfNums (gst xs1 (k : Int)).2.1))), (1502, .cel (adr A1 (Int.toNat (k : Int) * 4 + 2)) (.string (strOfNums (gst xs1 (k : Int)).2.2.1))), (1503, .cel (adr A1 (Int.toNat (k : Int) * 4 + 3)) (.int .i64 (gst xs1 (k : Int)).2.2.2)), (2499, .cels (adr A2 (Int.toNat (k : Int) * 4)) #[.int .i64 (gst xs2 (k : Int)).1, .string (strOfNums (gst xs2 (k : Int)).2.1), .string (strOfNums (gst xs2 (k : Int)).2.2.1), .int .i64 (gst xs2 (k : Int)).2.2.2]), (2500, .cel (adr A2 (Int.toNat (k : Int) * 4)) (.int .i64 (gst xs2 (k : Int)).1)), (2501, .cel (adr A2 (Int.toNat (k : Int) * 4 + 1)) (.string (strOfNums (gst xs2 (k : Int)).2.1))), (2502, .cel (adr A2 (Int.toNat (k : Int) * 4 + 2)) (.string (strOfNums (gst xs2 (k : Int)).2.2.1))), (2503, .cel (adr A2 (Int.toNat (k : Int) * 4 + 3)) (.int .i64 (gst xs2 (k : Int)).2.2.2))] _ := SL.of hH (sub_cons (sub_cons (sub_cons (sub_cons (sub_cons (sub_cons (sub_cons (sub_cons (sub_cons (sub_cons (sub_cons (sub_cons (sub_nil _) 2503 rfl) 2502 rfl) 2501 rfl) 2500 rfl) 2499 rfl) 1503 rfl) 1502 rfl) 1501 rfl) 1500 rfl) 1499 rfl) 902 rfl) 901 rfl)
    refine r_take 0 hF rfl rfl rfl (by kernel_rfl) (by kernel_rfl) (by kernel_rfl) (fun _ _ _ h => h) rfl hS (fun w hS => x_move (hF.tmp 0 rfl)) rfl ?_; clear hF; intro a hF
    refine r_take 1 hF rfl rfl rfl (by kernel_rfl) (by kernel_rfl) (by kernel_rfl) (fun _ _ _ h => h) rfl hS (fun w hS => x_move (hF.tmp 5 rfl)) rfl ?_; clear hF; intro a hF
    refine r_take 2 hF rfl rfl rfl (by kernel_rfl) (by kernel_rfl) (by kernel_rfl) (fun _ _ _ h => h) rfl hS (fun w hS => x_iaddr_A Tryd.underlying37 ty53 ((hH.rd 901 rfl)) (hF.tmp 17 rfl) (hF.tmp 18 rfl) (by omega) (by omega) _) rfl ?_; clear hF; intro a hF
    refine r_take 3 hF rfl rfl rfl (by kernel_rfl) (by kernel_rfl) (by kernel_rfl) (fun _ _ _ h => h) rfl hS (fun w hS => x_loadn ty53 (hF.tmp 19 rfl) rfl (hS 1499 _ rfl)) rfl ?_; clear hF; intro a hF
    refine r_take 4 hF rfl rfl rfl (by kernel_rfl) (by kernel_rfl) (by kernel_rfl) (fun _ _ _ h => h) rfl hS (fun w hS => x_move (hF.tmp 1 rfl)) rfl ?_; clear hF; intro a hF
    refine r_take 5 hF rfl rfl rfl (by kernel_rfl) (by kernel_rfl) (by kernel_rfl) (fun _ _ _ h => h) rfl hS (fun w hS => x_move (hF.tmp 5 rfl)) rfl ?_; clear hF; intro a hF
    refine r_take 6 hF rfl rfl rfl (by kernel_rfl) (by kernel_rfl) (by kernel_rfl) (fun _ _ _ h => h) rfl hS (fun w hS => x_iaddr_A Tryd.underlying37 ty53 ((hH.rd 902 rfl)) (hF.tmp 21 rfl) (hF.tmp 22 rfl) (by omega) (by omega) _) rfl ?_; clear hF; intro a hF
    refine r_take 7 hF rfl rfl rfl (by kernel_rfl) (by kernel_rfl) (by kernel_rfl) (fun _ _ _ h => h) rfl hS (fun w hS => x_loadn ty53 (hF.tmp 23 rfl) rfl (hS 2499 _ rfl)) rfl ?_; clear hF; intro a hF
    refine r_take 8 hF rfl rfl rfl (by kernel_rfl) (by kernel_rfl) (by kernel_rfl) (fun _ _ _ h => h) rfl hS (fun w hS => st_nes (x := (gst xs1 (k : Int))) (y := (gst xs2 (k : Int))) (hb1 _ hm1).1 (hb2 _ hm2).1 (hb1 _ hm1).2.1 (hb2 _ hm2).2.1 (hF.tmp 20 rfl) (hF.tmp 24 rfl)) rfl ?_; clear hF; intro a hF
    refine r_end (by kernel_rfl) ?_; clear hS
    refine hK10 _ _ ?_
    refine wp_cond_split (hF.tmp 25 rfl) (fun hc25 => ?_) (fun hc25 => ?_)
    ·have hk25_4 := hc25; try simp only [Bool.or_eq_true, Bool.and_eq_true, Bool.or_eq_false_iff, Bool.and_eq_false_iff, Bool.not_eq_true', Bool.not_eq_false', decide_eq_true_eq, decide_eq_false_iff_not, Bool.not_true, Bool.not_false] at hc25
     have hz := same_at (xs := xs1) (ys := xs2) (fun l => gst l (k : Int)) hc25
     refine wp_seq_k fun khK11 hK11 => ?_
     refine wp_region_lit ?_
     refine l_at hF rfl rfl rfl (x_assign rfl) ?_; clear hF; intro a hF
     refine wpList_nil ?_
     refine hK11 _ _ ?_
     refine wp_ret ?_
     try simp only [Exit.then, Exit.inBlock]
     exact fin_ret hF (res1 hF rfl rfl) ⟨by rw [hz] <;> rfl, hH.mods⟩
    ·have hk25_5 := hc25; try simp only [Bool.or_eq_true, Bool.and_eq_true, Bool.or_eq_false_iff, Bool.and_eq_false_iff, Bool.not_eq_true', Bool.not_eq_false', decide_eq_true_eq, decide_eq_false_iff_not, Bool.not_true, Bool.not_false] at hc25
     refine wp_skip ?_
     refine hK9 _ _ ?_
     refine wp_region_lit ?_
     refine l_at hF rfl rfl rfl (x_move (hF.tmp 5 rfl)) ?_; clear hF; intro a hF
     refine l_at hF rfl rfl rfl (x_add (hF.tmp 15 rfl) rfl (w64 (by omega) (by omega))) ?_; clear hF; intro a hF
     refine l_at hF rfl rfl rfl (x_assign (hF.tmp 16 rfl)) ?_; clear hF; intro a hF
     refine wpList_nil ?_
     exact ⟨_, by omega, ⟨k + 1, rfl, by omega, same_step (gst_some (xs := xs1) (i := (k : Int)) (by omega) (by omega)) (gst_some (xs := xs2) (i := (k : Int)) (by omega) (by omega)) hq0_1 hc25, (((hF.bare.add hF 5 rfl).add hF 1 rfl).add hF 0 rfl), hH.sub _ (sub_cons (sub_cons (sub_nil _) 902 rfl) 901 rfl)⟩⟩
   ·have hk14_6 := hc14; try simp only [Bool.or_eq_true, Bool.and_eq_true, Bool.or_eq_false_iff, Bool.and_eq_false_iff, Bool.not_eq_true', Bool.not_eq_false', decide_eq_true_eq, decide_eq_false_iff_not, Bool.not_true, Bool.not_false] at hc14
    have hz := same_yes (xs := xs1) (ys := xs2) (k := k) (by omega) hll hq0_1
    refine wp_exit ?_
    refine hK5 _ _ ?_
    refine wp_seq_k fun khK12 hK12 => ?_
    refine wp_region_lit ?_
    refine l_at hF rfl rfl rfl (x_assign rfl) ?_; clear hF; intro a hF
    refine wpList_nil ?_
    refine hK12 _ _ ?_
    refine wp_ret ?_
    try simp only [Exit.then, Exit.inBlock]
    exact fin_ret hF (res1 hF rfl rfl) ⟨by rw [hz] <;> rfl, hH.mods⟩
set_option maxRecDepth 100000 in
set_option maxHeartbeats 1000000 in
theorem r10same_calls (w0 : World) {p q : TimerD} {okp0 : Nat → Prop} {Ap0 : Option Addr} {cp0 : Nat} (hrp0 : Rd StE w0 okp0 Ap0 p.steps cp0) {okq0 : Nat → Prop} {Aq0 : Option Addr} {cq0 : Nat} (hrq0 : Rd StE w0 okq0 Aq0 q.steps cq0) (ha : TimerB p) (hb : TimerB q) : Calls Tryd.prog 88 #[.agg #[.string (strOfNums p.name), .int .i64 p.ver, .int .u64 p.tick, .int .u64 p.every, .slice Ap0 p.steps.length cp0], .agg #[.string (strOfNums q.name), .int .i64 q.ver, .int .u64 q.tick, .int .u64 q.every, .slice Aq0 q.steps.length cq0]] w0 fun e w' => e = .returned (.bool (decide (p = q))) ∧ Mods (fun _ => False) w0 w' := by
 refine calls_of_wp Tryd.func88 rfl ?_
 have hF := Fr.enter #[.agg #[.string (strOfNums p.name), .int .i64 p.ver, .int .u64 p.tick, .int .u64 p.every, .slice Ap0 p.steps.length cp0], .agg #[.string (strOfNums q.name), .int .i64 q.ver, .int .u64 q.tick, .int .u64 q.every, .slice Aq0 q.steps.length cq0]] 40 (slotsOf [.agg #[.string (strOfNums p.name), .int .i64 p.ver, .int .u64 p.tick, .int .u64 p.every, .slice Ap0 p.steps.length cp0], .agg #[.string (strOfNums q.name), .int .i64 q.ver, .int .u64 q.tick, .int .u64 q.every, .slice Aq0 q.steps.length cq0]] 0) (Nat.le_of_ble_eq_true rfl) (fun i v h => by have h2 := (get_slotsOf _ 0 i v h).2; simpa only [List.getElem?_toArray, Nat.sub_zero] using h2)
 have hH := Hp.nil (fun _ => False) w0
 rw [Tryd.ntmps88]
 revert hF; generalize (⟨(#[.agg #[.string (strOfNums p.name), .int .i64 p.ver, .int .u64 p.tick, .int .u64 p.every, .slice Ap0 p.steps.length cp0], .agg #[.string (strOfNums q.name), .int .i64 q.ver, .int .u64 q.tick, .int .u64 q.every, .slice Aq0 q.steps.length cq0]] : Array Value) ++ Array.replicate (40 - (#[.agg #[.string (strOfNums p.name), .int .i64 p.ver, .int .u64 p.tick, .int .u64 p.every, .slice Ap0 p.steps.length cp0], .agg #[.string (strOfNums q.name), .int .i64 q.ver, .int .u64 q.tick, .int .u64 q.every, .slice Aq0 q.steps.length cq0]] : Array Value).size) undef, []⟩ : Act) = a; intro hF
 have hH := hH.arg 900 hrp0.all (fun _ h => ⟨h, fun h => h⟩)
 have hlep0 := hrp0.le; unfold maxLen at hlep0
 have hH := hH.arg 950 hrq0.all (fun _ h => ⟨h, fun h => h⟩)
 have hleq0 := hrq0.le; unfold maxLen at hleq0
 refine wp_seq_k fun khK1 hK1 => ?_
 refine wp_region_lit ?_
 refine wpList_plain rfl fun K hK => ?_
 refine w_box 2 hF hH rfl (hF.tmp 0 rfl) ?_
 clear hF hH; intro a w b2 hF hH
 refine hK _ _ ?_; clear hK K
 refine wpList_plain rfl fun K hK => ?_
 refine w_box 3 hF hH rfl (hF.tmp 1 rfl) ?_
 clear hF hH; intro a w b3 hF hH
 refine hK _ _ ?_; clear hK K
 refine l_at hF rfl rfl rfl (x_assign rfl) ?_; clear hF; intro a hF
 refine wpList_nil ?_
 refine hK1 _ _ ?_
 refine wp_seq_k fun khK2 hK2 => ?_
 refine wp_region_lit ?_
 refine l_at hF rfl rfl rfl (x_faddr Tryd.underlying39 rfl ty37 (by decide) (hF.tmp 2 rfl) rfl) ?_; clear hF; intro a hF
 refine l_at hF rfl rfl rfl (x_load1 ty37 (hF.tmp 6 rfl) (blk_cell (hH.at 2 rfl) 4 rfl)) ?_; clear hF; intro a hF
 refine l_at hF rfl rfl rfl (x_faddr Tryd.underlying39 rfl ty37 (by decide) (hF.tmp 3 rfl) rfl) ?_; clear hF; intro a hF
 refine l_at hF rfl rfl rfl (x_load1 ty37 (hF.tmp 8 rfl) (blk_cell (hH.at 3 rfl) 4 rfl)) ?_; clear hF; intro a hF
 refine wpList_plain rfl fun K hK => ?_
 refine w_call hF (x_enter Tryd.func105 (by kernel_rfl) rfl (by simp only [List.map_toArray, List.map_cons, List.map_nil, hF.tmp 7 rfl, hF.tmp 9 rfl] <;> rfl)) (r9same_calls _ ((hH.rd 900 rfl)) ((hH.rd 950 rfl)) ha.steps hb.steps) rfl rfl ?_
 rintro _ w ⟨rfl, hm_⟩; refine ⟨_, rfl, ?_⟩; clear hF; intro a hF; have hH := hH.same hm_
 refine hK _ _ ?_; clear hK K
 refine l_at hF rfl rfl rfl (x_assign (hF.tmp 10 rfl)) ?_; clear hF; intro a hF
 refine wpList_nil ?_
 refine hK2 _ _ ?_
 refine wp_seq_k fun khK3 hK3 => ?_
 refine wp_region_lit ?_
 refine l_at hF rfl rfl rfl (x_faddr Tryd.underlying39 rfl ty9 (by decide) (hF.tmp 2 rfl) rfl) ?_; clear hF; intro a hF
 refine l_at hF rfl rfl rfl (x_load1 ty9 (hF.tmp 11 rfl) (blk_cell (hH.at 2 rfl) 0 rfl)) ?_; clear hF; intro a hF
 refine l_at hF rfl rfl rfl (x_faddr Tryd.underlying39 rfl ty9 (by decide) (hF.tmp 3 rfl) rfl) ?_; clear hF; intro a hF
 refine l_at hF rfl rfl rfl (x_load1 ty9 (hF.tmp 13 rfl) (blk_cell (hH.at 3 rfl) 0 rfl)) ?_; clear hF; intro a hF
 refine l_at hF rfl rfl rfl (x_eqn (xs := p.name) (ys := q.name) (hF.tmp 12 rfl) (hF.tmp 14 rfl) ha.name hb.name) ?_; clear hF; intro a hF
 refine l_at hF rfl rfl rfl (x_move (hF.tmp 15 rfl)) ?_; clear hF; intro a hF
 refine split_bool hF 16 rfl (fun hb16 => ?_) (fun hb16 => ?_)
 ·have hc16 := hb16; try simp only [Bool.or_eq_true, Bool.and_eq_true, Bool.or_eq_false_iff, Bool.and_eq_false_iff, Bool.not_eq_true', Bool.not_eq_false', decide_eq_true_eq, decide_eq_false_iff_not, Bool.not_true, Bool.not_false] at hc16
  refine l_atg hF ((wanted_of hF rfl rfl rfl rfl).trans (by rw [hb16]; rfl)) rfl rfl (x_faddr Tryd.underlying39 rfl ty3 (by decide) (hF.tmp 2 rfl) rfl) ?_; clear hF; intro a hF
  refine l_atg hF ((wanted_of hF rfl rfl rfl rfl).trans (by rw [hb16]; rfl)) rfl rfl (x_load1 ty3 (hF.tmp 17 rfl) (blk_cell (hH.at 2 rfl) 1 rfl)) ?_; clear hF; intro a hF
  refine l_atg hF ((wanted_of hF rfl rfl rfl rfl).trans (by rw [hb16]; rfl)) rfl rfl (x_faddr Tryd.underlying39 rfl ty3 (by decide) (hF.tmp 3 rfl) rfl) ?_; clear hF; intro a hF
  refine l_atg hF ((wanted_of hF rfl rfl rfl rfl).trans (by rw [hb16]; rfl)) rfl rfl (x_load1 ty3 (hF.tmp 19 rfl) (blk_cell (hH.at 3 rfl) 1 rfl)) ?_; clear hF; intro a hF
  refine l_atg hF ((wanted_of hF rfl rfl rfl rfl).trans (by rw [hb16]; rfl)) rfl rfl (x_eql (hF.tmp 18 rfl) (hF.tmp 20 rfl)) ?_; clear hF; intro a hF
  refine l_at hF rfl rfl rfl (x_pickT (hF.tmp 16 rfl) hb16 (hF.tmp 21 rfl)) ?_; clear hF; intro a hF
  refine l_at hF rfl rfl rfl (x_move (hF.tmp 22 rfl)) ?_; clear hF; intro a hF
  refine split_bool hF 23 rfl (fun hb23 => ?_) (fun hb23 => ?_)
  ·have hc23 := hb23; try simp only [Bool.or_eq_true, Bool.and_eq_true, Bool.or_eq_false_iff, Bool.and_eq_false_iff, Bool.not_eq_true', Bool.not_eq_false', decide_eq_true_eq, decide_eq_false_iff_not, Bool.not_true, Bool.not_false] at hc23
   refine l_atg hF ((wanted_of hF rfl rfl rfl rfl).trans (by rw [hb23]; rfl)) rfl rfl (x_faddr Tryd.underlying39 rfl ty34 (by decide) (hF.tmp 2 rfl) rfl) ?_; clear hF; intro a hF
   refine l_atg hF ((wanted_of hF rfl rfl rfl rfl).trans (by rw [hb23]; rfl)) rfl rfl (x_load1 ty34 (hF.tmp 24 rfl) (blk_cell (hH.at 2 rfl) 2 rfl)) ?_; clear hF; intro a hF
   refine l_atg hF ((wanted_of hF rfl rfl rfl rfl).trans (by rw [hb23]; rfl)) rfl rfl (x_faddr Tryd.underlying39 rfl ty34 (by decide) (hF.tmp 3 rfl) rfl) ?_; clear hF; intro a hF
   refine l_atg hF ((wanted_of hF rfl rfl rfl rfl).trans (by rw [hb23]; rfl)) rfl rfl (x_load1 ty34 (hF.tmp 26 rfl) (blk_cell (hH.at 3 rfl) 2 rfl)) ?_; clear hF; intro a hF
   refine l_atg hF ((wanted_of hF rfl rfl rfl rfl).trans (by rw [hb23]; rfl)) rfl rfl (x_eql (hF.tmp 25 rfl) (hF.tmp 27 rfl)) ?_; clear hF; intro a hF
   refine l_at hF rfl rfl rfl (x_pickT (hF.tmp 23 rfl) hb23 (hF.tmp 28 rfl)) ?_; clear hF; intro a hF
   refine l_at hF rfl rfl rfl (x_move (hF.tmp 29 rfl)) ?_; clear hF; intro a hF
   refine split_bool hF 30 rfl (fun hb30 => ?_) (fun hb30 => ?_)
   ·have hc30 := hb30; try simp only [Bool.or_eq_true, Bool.and_eq_true, Bool.or_eq_false_iff, Bool.and_eq_false_iff, Bool.not_eq_true', Bool.not_eq_false', decide_eq_true_eq, decide_eq_false_iff_not, Bool.not_true, Bool.not_false] at hc30
    refine l_atg hF ((wanted_of hF rfl rfl rfl rfl).trans (by rw [hb30]; rfl)) rfl rfl (x_faddr Tryd.underlying39 rfl ty34 (by decide) (hF.tmp 2 rfl) rfl) ?_; clear hF; intro a hF
    refine l_atg hF ((wanted_of hF rfl rfl rfl rfl).trans (by rw [hb30]; rfl)) rfl rfl (x_load1 ty34 (hF.tmp 31 rfl) (blk_cell (hH.at 2 rfl) 3 rfl)) ?_; clear hF; intro a hF
    refine l_atg hF ((wanted_of hF rfl rfl rfl rfl).trans (by rw [hb30]; rfl)) rfl rfl (x_faddr Tryd.underlying39 rfl ty34 (by decide) (hF.tmp 3 rfl) rfl) ?_; clear hF; intro a hF
    refine l_atg hF ((wanted_of hF rfl rfl rfl rfl).trans (by rw [hb30]; rfl)) rfl rfl (x_load1 ty34 (hF.tmp 33 rfl) (blk_cell (hH.at 3 rfl) 3 rfl)) ?_; clear hF; intro a hF
    refine l_atg hF ((wanted_of hF rfl rfl rfl rfl).trans (by rw [hb30]; rfl)) rfl rfl (x_eql (hF.tmp 32 rfl) (hF.tmp 34 rfl)) ?_; clear hF; intro a hF
    refine l_at hF rfl rfl rfl (x_pickT (hF.tmp 30 rfl) hb30 (hF.tmp 35 rfl)) ?_; clear hF; intro a hF
    refine l_at hF rfl rfl rfl (x_move (hF.tmp 36 rfl)) ?_; clear hF; intro a hF
    refine split_bool hF 37 rfl (fun hb37 => ?_) (fun hb37 => ?_)
    ·have hc37 := hb37; try simp only [Bool.or_eq_true, Bool.and_eq_true, Bool.or_eq_false_iff, Bool.and_eq_false_iff, Bool.not_eq_true', Bool.not_eq_false', decide_eq_true_eq, decide_eq_false_iff_not, Bool.not_true, Bool.not_false] at hc37
     refine l_atg hF ((wanted_of hF rfl rfl rfl rfl).trans (by rw [hb37]; rfl)) rfl rfl (x_move (hF.tmp 5 rfl)) ?_; clear hF; intro a hF
     refine l_at hF rfl rfl rfl (x_pickT (hF.tmp 37 rfl) hb37 (hF.tmp 38 rfl)) ?_; clear hF; intro a hF
     refine l_at hF rfl rfl rfl (x_assign (hF.tmp 39 rfl)) ?_; clear hF; intro a hF
     refine wpList_nil ?_
     refine hK3 _ _ ?_
     refine wp_ret ?_
     try simp only [Exit.then, Exit.inBlock]
     have hv : (decide (p.steps = q.steps)) = decide (p = q) := by rw [Bool.eq_iff_iff]; simp only [decide_eq_true_iff, tim_same]; first | (simp [hc16, hc23, hc30, hc37]; done) | (simp [hc16, hc23, hc30, hc37]; omega)
     exact fin_ret hF (res1 (v := .bool (decide (p.steps = q.steps))) hF rfl rfl) ⟨by rw [hv], hH.mods⟩
    ·have hc37 := hb37; try simp only [Bool.or_eq_true, Bool.and_eq_true, Bool.or_eq_false_iff, Bool.and_eq_false_iff, Bool.not_eq_true', Bool.not_eq_false', decide_eq_true_eq, decide_eq_false_iff_not, Bool.not_true, Bool.not_false] at hc37
     refine l_offg hF ((wanted_of hF rfl rfl rfl rfl).trans (by rw [hb37]; rfl)) rfl rfl ?_; clear hF; intro a hF
     refine l_at hF rfl rfl rfl (x_pickF (hF.tmp 37 rfl) hb37 rfl) ?_; clear hF; intro a hF
     refine l_at hF rfl rfl rfl (x_assign (hF.tmp 39 rfl)) ?_; clear hF; intro a hF
     refine wpList_nil ?_
     refine hK3 _ _ ?_
     refine wp_ret ?_
     try simp only [Exit.then, Exit.inBlock]
     have hv : false = decide (p = q) := by rw [Bool.eq_iff_iff]; simp only [decide_eq_true_iff, tim_same]; first | (simp [hc16, hc23, hc30, hc37]; done) | (simp [hc16, hc23, hc30, hc37]; omega)
     exact fin_ret hF (res1 (v := .bool false) hF rfl rfl) ⟨by rw [hv], hH.mods⟩
   ·have hc30 := hb30; try simp only [Bool.or_eq_true, Bool.and_eq_true, Bool.or_eq_false_iff, Bool.and_eq_false_iff, Bool.not_eq_true', Bool.not_eq_false', decide_eq_true_eq, decide_eq_false_iff_not, Bool.not_true, Bool.not_false] at hc30
    refine l_offg hF ((wanted_of hF rfl rfl rfl rfl).trans (by rw [hb30]; rfl)) rfl rfl ?_; clear hF; intro a hF
    refine l_offg hF ((wanted_of hF rfl rfl rfl rfl).trans (by rw [hb30]; rfl)) rfl rfl ?_; clear hF; intro a hF
    refine l_offg hF ((wanted_of hF rfl rfl rfl rfl).trans (by rw [hb30]; rfl)) rfl rfl ?_; clear hF; intro a hF
    refine l_offg hF ((wanted_of hF rfl rfl rfl rfl).trans (by rw [hb30]; rfl)) rfl rfl ?_; clear hF; intro a hF
    refine l_offg hF ((wanted_of hF rfl rfl rfl rfl).trans (by rw [hb30]; rfl)) rfl rfl ?_; clear hF; intro a hF
    refine l_at hF rfl rfl rfl (x_pickF (hF.tmp 30 rfl) hb30 rfl) ?_; clear hF; intro a hF
    refine l_at hF rfl rfl rfl (x_move (hF.tmp 36 rfl)) ?_; clear hF; intro a hF
    refine l_offg hF ((wanted_of hF rfl rfl rfl rfl).trans rfl) rfl rfl ?_; clear hF; intro a hF
    refine l_at hF rfl rfl rfl (x_pickF (hF.tmp 37 rfl) rfl rfl) ?_; clear hF; intro a hF
    refine l_at hF rfl rfl rfl (x_assign (hF.tmp 39 rfl)) ?_; clear hF; intro a hF
    refine wpList_nil ?_
    refine hK3 _ _ ?_
    refine wp_ret ?_
    try simp only [Exit.then, Exit.inBlock]
    have hv : false = decide (p = q) := by rw [Bool.eq_iff_iff]; simp only [decide_eq_true_iff, tim_same]; first | (simp [hc16, hc23, hc30]; done) | (simp [hc16, hc23, hc30]; omega)
    exact fin_ret hF (res1 (v := .bool false) hF rfl rfl) ⟨by rw [hv], hH.mods⟩
  ·have hc23 := hb23; try simp only [Bool.or_eq_true, Bool.and_eq_true, Bool.or_eq_false_iff, Bool.and_eq_false_iff, Bool.not_eq_true', Bool.not_eq_false', decide_eq_true_eq, decide_eq_false_iff_not, Bool.not_true, Bool.not_false] at hc23
   refine l_offg hF ((wanted_of hF rfl rfl rfl rfl).trans (by rw [hb23]; rfl)) rfl rfl ?_; clear hF; intro a hF
   refine l_offg hF ((wanted_of hF rfl rfl rfl rfl).trans (by rw [hb23]; rfl)) rfl rfl ?_; clear hF; intro a hF
   refine l_offg hF ((wanted_of hF rfl rfl rfl rfl).trans (by rw [hb23]; rfl)) rfl rfl ?_; clear hF; intro a hF
   refine l_offg hF ((wanted_of hF rfl rfl rfl rfl).trans (by rw [hb23]; rfl)) rfl rfl ?_; clear hF; intro a hF
   refine l_offg hF ((wanted_of hF rfl rfl rfl rfl).trans (by rw [hb23]; rfl)) rfl rfl ?_; clear hF; intro a hF
   refine l_at hF rfl rfl rfl (x_pickF (hF.tmp 23 rfl) hb23 rfl) ?_; clear hF; intro a hF
   refine l_at hF rfl rfl rfl (x_move (hF.tmp 29 rfl)) ?_; clear hF; intro a hF
   refine l_offg hF ((wanted_of hF rfl rfl rfl rfl).trans rfl) rfl rfl ?_; clear hF; intro a hF
   refine l_offg hF ((wanted_of hF rfl rfl rfl rfl).trans rfl) rfl rfl ?_; clear hF; intro a hF
   refine l_offg hF ((wanted_of hF rfl rfl rfl rfl).trans rfl) rfl rfl ?_; clear hF; intro a hF
   refine l_offg hF ((wanted_of hF rfl rfl rfl rfl).trans rfl) rfl rfl ?_; clear hF; intro a hF
   refine l_offg hF ((wanted_of hF rfl rfl rfl rfl).trans rfl) rfl rfl ?_; clear hF; intro a hF
   refine l_at hF rfl rfl rfl (x_pickF (hF.tmp 30 rfl) rfl rfl) ?_; clear hF; intro a hF
   refine l_at hF rfl rfl rfl (x_move (hF.tmp 36 rfl)) ?_; clear hF; intro a hF
   refine l_offg hF ((wanted_of hF rfl rfl rfl rfl).trans rfl) rfl rfl ?_; clear hF; intro a hF
   refine l_at hF rfl rfl rfl (x_pickF (hF.tmp 37 rfl) rfl rfl) ?_; clear hF; intro a hF
   refine l_at hF rfl rfl rfl (x_assign (hF.tmp 39 rfl)) ?_; clear hF; intro a hF
   refine wpList_nil ?_
   refine hK3 _ _ ?_
   refine wp_ret ?_
   try simp only [Exit.then, Exit.inBlock]
   have hv : false = decide (p = q) := by rw [Bool.eq_iff_iff]; simp only [decide_eq_true_iff, tim_same]; first | (simp [hc16, hc23]; done) | (simp [hc16, hc23]; omega)
   exact fin_ret hF (res1 (v := .bool false) hF rfl rfl) ⟨by rw [hv], hH.mods⟩
 ·have hc16 := hb16; try simp only [Bool.or_eq_true, Bool.and_eq_true, Bool.or_eq_false_iff, Bool.and_eq_false_iff, Bool.not_eq_true', Bool.not_eq_false', decide_eq_true_eq, decide_eq_false_iff_not, Bool.not_true, Bool.not_false] at hc16
  refine l_offg hF ((wanted_of hF rfl rfl rfl rfl).trans (by rw [hb16]; rfl)) rfl rfl ?_; clear hF; intro a hF
  refine l_offg hF ((wanted_of hF rfl rfl rfl rfl).trans (by rw [hb16]; rfl)) rfl rfl ?_; clear hF; intro a hF
  refine l_offg hF ((wanted_of hF rfl rfl rfl rfl).trans (by rw [hb16]; rfl)) rfl rfl ?_; clear hF; intro a hF
  refine l_offg hF ((wanted_of hF rfl rfl rfl rfl).trans (by rw [hb16]; rfl)) rfl rfl ?_; clear hF; intro a hF
  refine l_offg hF ((wanted_of hF rfl rfl rfl rfl).trans (by rw [hb16]; rfl)) rfl rfl ?_; clear hF; intro a hF
  refine l_at hF rfl rfl rfl (x_pickF (hF.tmp 16 rfl) hb16 rfl) ?_; clear hF; intro a hF
  refine l_at hF rfl rfl rfl (x_move (hF.tmp 22 rfl)) ?_; clear hF; intro a hF
  refine l_offg hF ((wanted_of hF rfl rfl rfl rfl).trans rfl) rfl rfl ?_; clear hF; intro a hF
  refine l_offg hF ((wanted_of hF rfl rfl rfl rfl).trans rfl) rfl rfl ?_; clear hF; intro a hF
  refine l_offg hF ((wanted_of hF rfl rfl rfl rfl).trans rfl) rfl rfl ?_; clear hF; intro a hF
  refine l_offg hF ((wanted_of hF rfl rfl rfl rfl).trans rfl) rfl rfl ?_; clear hF; intro a hF
  refine l_offg hF ((wanted_of hF rfl rfl rfl rfl).trans rfl) rfl rfl ?_; clear hF; intro a hF
  refine l_at hF rfl rfl rfl (x_pickF (hF.tmp 23 rfl) rfl rfl) ?_; clear hF; intro a hF
  refine l_at hF rfl rfl rfl (x_move (hF.tmp 29 rfl)) ?_; clear hF; intro a hF
  refine l_offg hF ((wanted_of hF rfl rfl rfl rfl).trans rfl) rfl rfl ?_; clear hF; intro a hF
  refine l_offg hF ((wanted_of hF rfl rfl rfl rfl).trans rfl) rfl rfl ?_; clear hF; intro a hF
  refine l_offg hF ((wanted_of hF rfl rfl rfl rfl).trans rfl) rfl rfl ?_; clear hF; intro a hF
  refine l_offg hF ((wanted_of hF rfl rfl rfl rfl).trans rfl) rfl rfl ?_; clear hF; intro a hF
  refine l_offg hF ((wanted_of hF rfl rfl rfl rfl).trans rfl) rfl rfl ?_; clear hF; intro a hF
  refine l_at hF rfl rfl rfl (x_pickF (hF.tmp 30 rfl) rfl rfl) ?_; clear hF; intro a hF
  refine l_at hF rfl rfl rfl (x_move (hF.tmp 36 rfl)) ?_; clear hF; intro a hF
  refine l_offg hF ((wanted_of hF rfl rfl rfl rfl).trans rfl) rfl rfl ?_; clear hF; intro a hF
  refine l_at hF rfl rfl rfl (x_pickF (hF.tmp 37 rfl) rfl rfl) ?_; clear hF; intro a hF
  refine l_at hF rfl rfl rfl (x_assign (hF.tmp 39 rfl)) ?_; clear hF; intro a hF
  refine wpList_nil ?_
  refine hK3 _ _ ?_
  refine wp_ret ?_
  try simp only [Exit.then, Exit.inBlock]
  have hv : false = decide (p = q) := by rw [Bool.eq_iff_iff]; simp only [decide_eq_true_iff, tim_same]; first | (simp [hc16]; done) | (simp [hc16]; omega)
  exact fin_ret hF (res1 (v := .bool false) hF rfl rfl) ⟨by rw [hv], hH.mods⟩
theorem refEnc_at {w0 : World} {ok : Nat → Prop} {A : Option Addr} {xs : List Fld} {c : Nat} (hr : Rd FE w0 ok A xs c) {ys : List Int} (h : encR xs = some ys) : Calls Tryd.prog 129 #[.slice A xs.length c] w0 fun e w' => ∃ v er, e = .returned (.tuple #[v, .int .i64 er]) ∧ Mods (fun _ => False) w0 w' ∧ RowOut (.int .u8) 5 w0 w' v ys := by
 refine (refEnc_calls w0 hr).mono ?_
 rintro e w' ⟨v, he, h1, h2⟩
 rw [h] at h2
 exact ⟨v, _, he, h1, h2⟩
set_option maxRecDepth 100000 in
set_option maxHeartbeats 1000000 in
theorem raenc_calls (w0 : World) {ok : Nat → Prop} {A : Option Addr} {xs : List StepD} {c : Nat} (hr : Rd StE w0 ok A xs c) (hbs : ∀ s ∈ xs, StepB s) : Calls Tryd.prog 124 #[.slice A xs.length c] w0 fun e w' => ∃ v, e = .returned (.tuple #[v, .int .i64 (encE xs)]) ∧ Mods (fun _ => False) w0 w' ∧ RowOut (.int .u8) 5 w0 w' v (encT xs) := by
 refine calls_of_wp Tryd.func124 rfl ?_
 have hF := Fr.enter #[.slice A xs.length c] 75 (slotsOf [.slice A xs.length c] 0) (Nat.le_of_ble_eq_true rfl) (fun i v h => by have h2 := (get_slotsOf _ 0 i v h).2; simpa only [List.getElem?_toArray, Nat.sub_zero] using h2)
 have hH := Hp.nil (fun _ => False) w0
 rw [Tryd.ntmps124]
 revert hF; generalize (⟨(#[.slice A xs.length c] : Array Value) ++ Array.replicate (75 - (#[.slice A xs.length c] : Array Value).size) undef, []⟩ : Act) = a; intro hF
 have hH := hH.arg 901 hr.all (fun _ h => ⟨h, fun h => h⟩)
 have hle901 := hr.le; unfold maxLen at hle901
 refine wp_seq_k fun khK1 hK1 => ?_
 refine wp_region_lit ?_
 refine l_at hF rfl rfl rfl (x_assign rfl) ?_; clear hF; intro a hF
 refine l_at hF rfl rfl rfl (x_assign rfl) ?_; clear hF; intro a hF
 refine wpList_nil ?_
 refine hK1 _ _ ?_
 refine wp_seq_k fun khK2 hK2 => ?_
 refine wp_seq_k fun khK3 hK3 => ?_
 refine wp_region_lit ?_
 refine l_at hF rfl rfl rfl (x_move (hF.tmp 0 rfl)) ?_; clear hF; intro a hF
 refine l_at hF rfl rfl rfl (x_len_slice Tryd.underlying37 (hF.tmp 10 rfl)) ?_; clear hF; intro a hF
 refine l_at hF rfl rfl rfl (x_gtr (hF.tmp 11 rfl) rfl) ?_; clear hF; intro a hF
 refine wpList_nil ?_
 refine hK3 _ _ ?_
 refine wp_cond_split (hF.tmp 12 rfl) (fun hc12 => ?_) (fun hc12 => ?_)
 ·have hk12_1 := hc12; try simp only [Bool.or_eq_true, Bool.and_eq_true, Bool.or_eq_false_iff, Bool.and_eq_false_iff, Bool.not_eq_true', Bool.not_eq_false', decide_eq_true_eq, decide_eq_false_iff_not, Bool.not_true, Bool.not_false] at hc12
  have hz := enc_many hc12
  refine wp_seq_k fun khK4 hK4 => ?_
  refine wp_region_lit ?_
  refine l_at hF rfl rfl rfl (x_assign rfl) ?_; clear hF; intro a hF
  refine l_at hF rfl rfl rfl (x_assign rfl) ?_; clear hF; intro a hF
  refine wpList_nil ?_
  refine hK4 _ _ ?_
  refine wp_ret ?_
  try simp only [Exit.then, Exit.inBlock]
  have hz2 := encT_0 (xs := xs) (by rw [hz]; decide)
  exact fin_ret hF (res2 hF rfl rfl rfl) ⟨.slice none 0 0, by rw [hz] <;> rfl, hH.mods, by rw [hz2]; exact RowOut.nil _ _ _ _⟩
 ·have hk12_2 := hc12; try simp only [Bool.or_eq_true, Bool.and_eq_true, Bool.or_eq_false_iff, Bool.and_eq_false_iff, Bool.not_eq_true', Bool.not_eq_false', decide_eq_true_eq, decide_eq_false_iff_not, Bool.not_true, Bool.not_false] at hc12
  refine wp_skip ?_
  refine hK2 _ _ ?_
  refine wp_seq_k fun khK5 hK5 => ?_
  refine wp_region_lit ?_
  refine l_at hF rfl rfl rfl (x_assign rfl) ?_; clear hF; intro a hF
  have hH := hH.row0 4 FE 99
  refine wpList_nil ?_
  refine hK5 _ _ ?_
  refine wp_seq_k fun khK6 hK6 => ?_
  refine wp_seq_k fun khK7 hK7 => ?_
  refine wp_region_lit ?_
  refine l_at hF rfl rfl rfl (x_assign rfl) ?_; clear hF; intro a hF
  refine wpList_nil ?_
  refine hK7 _ _ ?_
  refine wp_block ?_
  refine wp_loop_ghost (fun n_ a w => ∃ k : Nat, ∃ v4 : Value, ∃ okv : Nat → Prop, n_ = xs.length - k ∧ (k ≤ xs.length) ∧ ((xs.take k).all rightS = true) ∧ Fr 75 a [(0, .slice A xs.length c), (4, v4), (5, .int .i64 (k : Int))] ∧ Hp (fun _ => False) w0 w [(901, .rd_ StE A xs c (fun k => k < w0.heap.size)), (4, .row FE 99 v4 ((xs.take k).map fldS) okv)]) (xs.length) ?_ ?_
  ·exact ⟨0, .slice none 0 0, (fun _ => False), rfl, by omega, rfl, (((hF.bare.add hF 5 rfl).add hF 4 rfl).add hF 0 rfl), hH.sub _ (sub_cons (sub_cons (sub_nil _) 4 rfl) 901 rfl)⟩
  ·rintro _ a w ⟨k, v4, okv, rfl, hq0_0, hq0_1, hF, hH⟩
   refine wp_seq_k fun khK8 hK8 => ?_
   refine wp_seq_k fun khK9 hK9 => ?_
   refine wp_region_lit ?_
   refine l_at hF rfl rfl rfl (x_move (hF.tmp 5 rfl)) ?_; clear hF; intro a hF
   refine l_at hF rfl rfl rfl (x_move (hF.tmp 0 rfl)) ?_; clear hF; intro a hF
   refine l_at hF rfl rfl rfl (x_len_slice Tryd.underlying37 (hF.tmp 14 rfl)) ?_; clear hF; intro a hF
   refine l_at hF rfl rfl rfl (x_lss (hF.tmp 13 rfl) (hF.tmp 15 rfl)) ?_; clear hF; intro a hF
   refine wpList_nil ?_
   refine hK9 _ _ ?_
   refine wp_cond_split (hF.tmp 16 rfl) (fun hc16 => ?_) (fun hc16 => ?_)
   ·have hk16_3 := hc16; try simp only [Bool.or_eq_true, Bool.and_eq_true, Bool.or_eq_false_iff, Bool.and_eq_false_iff, Bool.not_eq_true', Bool.not_eq_false', decide_eq_true_eq, decide_eq_false_iff_not, Bool.not_true, Bool.not_false] at hc16
    refine wp_skip ?_
    refine hK8 _ _ ?_
    refine wp_seq_k fun khK10 hK10 => ?_
    refine wp_block ?_
    refine wp_seq_k fun khK11 hK11 => ?_
    refine wp_region_lit ?_
    obtain ⟨hf1_0, hf1_1, hf1_2, hf1_3, hfw1⟩ := rd_st ((hH.rd 901 rfl)) (gst_some (xs := xs) (i := (k : Int)) (by omega) (by omega))
    have hH := hH.subcels 901 rfl 1499 hfw1 (Rd.inok ((hH.rd 901 rfl)) (by omega) _)
    have hH := hH.subcel 901 rfl 1500 hf1_0 (Rd.inok ((hH.rd 901 rfl)) (by omega) _)
    have hH := hH.subcel 901 rfl 1501 hf1_1 (Rd.inok ((hH.rd 901 rfl)) (by omega) _)
    have hH := hH.subcel 901 rfl 1502 hf1_2 (Rd.inok ((hH.rd 901 rfl)) (by omega) _)
    have hH := hH.subcel 901 rfl 1503 hf1_3 (Rd.inok ((hH.rd 901 rfl)) (by omega) _)
    have hmem := gst_mem (xs := xs) (j := k) (by omega)
    refine l_at hF rfl rfl rfl (x_move (hF.tmp 0 rfl)) ?_; clear hF; intro a hF
    refine l_at hF rfl rfl rfl (x_move (hF.tmp 5 rfl)) ?_; clear hF; intro a hF
    refine l_at hF rfl rfl rfl (x_iaddr_A Tryd.underlying37 ty53 ((hH.rd 901 rfl)) (hF.tmp 19 rfl) (hF.tmp 20 rfl) (by omega) (by omega) _) ?_; clear hF; intro a hF
    refine l_at hF rfl rfl rfl (x_loadn ty53 (hF.tmp 21 rfl) rfl (hH.holds 1499 _ rfl)) ?_; clear hF; intro a hF
    refine wpList_plain rfl fun K hK => ?_
    refine w_call hF (x_enter Tryd.func117 (by kernel_rfl) rfl (by simp only [List.map_toArray, List.map_cons, List.map_nil, hF.tmp 22 rfl] <;> rfl)) (rright_calls _ (gst xs (k : Int))) rfl rfl ?_
    rintro _ w ⟨rfl, hm_⟩; refine ⟨_, rfl, ?_⟩; clear hF; intro a hF; have hH := hH.same hm_
    refine hK _ _ ?_; clear hK K
    refine l_at hF rfl rfl rfl (x_assign (hF.tmp 23 rfl)) ?_; clear hF; intro a hF
    refine wpList_nil ?_
    refine hK11 _ _ ?_
    refine wp_seq_k fun khK12 hK12 => ?_
    refine wp_seq_k fun khK13 hK13 => ?_
    refine wp_region_lit ?_
    refine l_at hF rfl rfl rfl (x_move (hF.tmp 6 rfl)) ?_; clear hF; intro a hF
    refine l_at hF rfl rfl rfl (x_not (hF.tmp 24 rfl)) ?_; clear hF; intro a hF
    refine wpList_nil ?_
    refine hK13 _ _ ?_
    refine wp_cond_split (hF.tmp 25 rfl) (fun hc25 => ?_) (fun hc25 => ?_)
    ·have hk25_4 := hc25; try simp only [Bool.or_eq_true, Bool.and_eq_true, Bool.or_eq_false_iff, Bool.and_eq_false_iff, Bool.not_eq_true', Bool.not_eq_false', decide_eq_true_eq, decide_eq_false_iff_not, Bool.not_true, Bool.not_false] at hc25
     have hz := enc_bad hc12 (by omega) (by simpa using hc25)
     refine wp_seq_k fun khK14 hK14 => ?_
     refine wp_region_lit ?_
     refine l_at hF rfl rfl rfl (x_assign rfl) ?_; clear hF; intro a hF
     refine l_at hF rfl rfl rfl (x_assign rfl) ?_; clear hF; intro a hF
     refine wpList_nil ?_
     refine hK14 _ _ ?_
     refine wp_ret ?_
     try simp only [Exit.then, Exit.inBlock]
     have hz2 := encT_0 (xs := xs) (by rw [hz]; decide)
     exact fin_ret hF (res2 hF rfl rfl rfl) ⟨.slice none 0 0, by rw [hz] <;> rfl, hH.mods, by rw [hz2]; exact RowOut.nil _ _ _ _⟩
    ·have hk25_5 := hc25; try simp only [Bool.or_eq_true, Bool.and_eq_true, Bool.or_eq_false_iff, Bool.and_eq_false_iff, Bool.not_eq_true', Bool.not_eq_false', decide_eq_true_eq, decide_eq_false_iff_not, Bool.not_true, Bool.not_false] at hc25
     have hcr : rightS (gst xs (k : Int)) = true := by simpa using hc25
     refine wp_skip ?_
     refine hK12 _ _ ?_
     refine wp_seq_k fun khK15 hK15 => ?_
     refine wp_region_lit ?_
     refine l_at hF rfl rfl rfl (x_move (hF.tmp 0 rfl)) ?_; clear hF; intro a hF
     refine l_at hF rfl rfl rfl (x_move (hF.tmp 5 rfl)) ?_; clear hF; intro a hF
     refine l_at hF rfl rfl rfl (x_iaddr_A Tryd.underlying37 ty53 ((hH.rd 901 rfl)) (hF.tmp 26 rfl) (hF.tmp 27 rfl) (by omega) (by omega) _) ?_; clear hF; intro a hF
     refine l_at hF rfl rfl rfl (x_faddrA ((hH.rd 901 rfl)) (by omega) _ Tryd.underlying53 rfl ty9 (by decide) (hF.tmp 28 rfl) rfl) ?_; clear hF; intro a hF
     refine l_at hF rfl rfl rfl (x_load1 ty9 (hF.tmp 29 rfl) (hH.holds 1502 _ rfl)) ?_; clear hF; intro a hF
     refine l_at hF rfl rfl rfl (x_assign (hF.tmp 30 rfl)) ?_; clear hF; intro a hF
     refine wpList_nil ?_
     refine hK15 _ _ ?_
     refine wp_seq_k fun khK16 hK16 => ?_
     refine wp_seq_k fun khK17 hK17 => ?_
     refine wp_region_lit ?_
     refine l_at hF rfl rfl rfl (x_move (hF.tmp 0 rfl)) ?_; clear hF; intro a hF
     refine l_at hF rfl rfl rfl (x_move (hF.tmp 5 rfl)) ?_; clear hF; intro a hF
     refine l_at hF rfl rfl rfl (x_iaddr_A Tryd.underlying37 ty53 ((hH.rd 901 rfl)) (hF.tmp 31 rfl) (hF.tmp 32 rfl) (by omega) (by omega) _) ?_; clear hF; intro a hF
     refine l_at hF rfl rfl rfl (x_faddrA ((hH.rd 901 rfl)) (by omega) _ Tryd.underlying53 rfl ty51 (by decide) (hF.tmp 33 rfl) rfl) ?_; clear hF; intro a hF
     refine l_at hF rfl rfl rfl (x_load1 ty51 (hF.tmp 34 rfl) (hH.holds 1500 _ rfl)) ?_; clear hF; intro a hF
     refine l_at hF rfl rfl rfl (x_eql (hF.tmp 35 rfl) rfl) ?_; clear hF; intro a hF
     refine wpList_nil ?_
     refine hK17 _ _ ?_
     refine wp_cond_split (hF.tmp 36 rfl) (fun hc36 => ?_) (fun hc36 => ?_)
     ·have hk36_6 := hc36; try simp only [Bool.or_eq_true, Bool.and_eq_true, Bool.or_eq_false_iff, Bool.and_eq_false_iff, Bool.not_eq_true', Bool.not_eq_false', decide_eq_true_eq, decide_eq_false_iff_not, Bool.not_true, Bool.not_false] at hc36
      refine wp_region_lit ?_
      refine l_at hF rfl rfl rfl (x_move (hF.tmp 0 rfl)) ?_; clear hF; intro a hF
      refine l_at hF rfl rfl rfl (x_move (hF.tmp 5 rfl)) ?_; clear hF; intro a hF
      refine l_at hF rfl rfl rfl (x_iaddr_A Tryd.underlying37 ty53 ((hH.rd 901 rfl)) (hF.tmp 37 rfl) (hF.tmp 38 rfl) (by omega) (by omega) _) ?_; clear hF; intro a hF
      refine l_at hF rfl rfl rfl (x_faddrA ((hH.rd 901 rfl)) (by omega) _ Tryd.underlying53 rfl ty2 (by decide) (hF.tmp 39 rfl) rfl) ?_; clear hF; intro a hF
      refine l_at hF rfl rfl rfl (x_load1 ty2 (hF.tmp 40 rfl) (hH.holds 1503 _ rfl)) ?_; clear hF; intro a hF
      refine wpList_plain rfl fun K hK => ?_
      refine w_call hF (x_enter Tryd.func128 (by kernel_rfl) rfl (by simp only [List.map_toArray, List.map_cons, List.map_nil, hF.tmp 41 rfl] <;> rfl)) (text_calls _ (hbs _ hmem).2.2) rfl rfl ?_
      rintro _ w ⟨rfl, hm_⟩; refine ⟨_, rfl, ?_⟩; clear hF; intro a hF; have hH := hH.same hm_
      refine hK _ _ ?_; clear hK K
      refine l_at hF rfl rfl rfl (x_assign (hF.tmp 42 rfl)) ?_; clear hF; intro a hF
      refine wpList_nil ?_
      refine hK16 _ _ ?_
      refine r_start [(901, .rd_ StE A xs c (fun k => k < w0.heap.size)), (1499, .cels (adr A (Int.toNat (k : Int) * 4)) #[.int .i64 (gst xs (k : Int)).1, .string (strOfNums (gst xs (k : Int)).2.1), .string (strOfNums (gst xs (k : Int)).2.2.1), .int .i64 (gst xs (k : Int)).2.2.2]), (1500, .cel (adr A (Int.toNat (k : Int) * 4)) (.int .i64 (gst xs (k : Int)).1)), (1501, .cel (adr A (Int.toNat (k : Int) * 4 + 1)) (.string (strOfNums (gst xs (k : Int)).2.1))), (1502, .cel (adr A (Int.toNat (k : Int) * 4 + 2)) (.string (strOfNums (gst xs (k : Int)).2.2.1))), (1503, .cel (adr A (Int.toNat (k : Int) * 4 + 3)) (.int .i64 (gst xs (k : Int)).2.2.2))] (by kernel_rfl) hH fun hH => ?_
      have hS : SL [(901, .rd_ StE A xs c (fun k => k < w0.heap.size)), (1499, .cels (adr A (Int.toNat (k : Int) * 4)) #[.int .i64 (gst xs (k : Int)).1, .string (strOfNums (gst xs (k : Int)).2.1), .string (strOfNums (gst xs (k : Int)).2.2.1), .int .i64 (gst xs (k : Int)).2.2.2]), (1500, .cel (adr A (Int.toNat (k : Int) * 4)) (.int .i64 (gst xs (k : Int)).1)), (1501, .cel (adr A (Int.toNat (k : Int) * 4 + 1)) (.string (strOfNums (gst xs (k : Int)).2.1))), (1502, .cel (adr A (Int.toNat (k : Int) * 4 + 2)) (.string (strOfNums (gst xs (k : Int)).2.2.1))), (1503, .cel (adr A (Int.toNat (k : Int) * 4 + 3)) (.int .i64 (gst xs (k : Int)).2.2.2))] _ := SL.of hH (sub_cons (sub_cons (sub_cons (sub_cons (sub_cons (sub_cons (sub_nil _) 1503 rfl) 1502 rfl) 1501 rfl) 1500 rfl) 1499 rfl) 901 rfl)
      rw [restS_add hc36] at hF
      refine r_take 0 hF rfl rfl rfl (by kernel_rfl) (by kernel_rfl) (by kernel_rfl) (fun _ _ _ h => h) rfl hS (fun w hS => x_move (hF.tmp 4 rfl)) rfl ?_; clear hF; intro a hF
      refine r_take 1 hF rfl rfl rfl (by kernel_rfl) (by kernel_rfl) (by kernel_rfl) (fun _ _ _ h => h) rfl hS (fun w hS => x_move (hF.tmp 0 rfl)) rfl ?_; clear hF; intro a hF
      refine r_take 2 hF rfl rfl rfl (by kernel_rfl) (by kernel_rfl) (by kernel_rfl) (fun _ _ _ h => h) rfl hS (fun w hS => x_move (hF.tmp 5 rfl)) rfl ?_; clear hF; intro a hF
      refine r_take 3 hF rfl rfl rfl (by kernel_rfl) (by kernel_rfl) (by kernel_rfl) (fun _ _ _ h => h) rfl hS (fun w hS => x_iaddr_A Tryd.underlying37 ty53 ((hH.rd 901 rfl)) (hF.tmp 44 rfl) (hF.tmp 45 rfl) (by omega) (by omega) _) rfl ?_; clear hF; intro a hF
      refine r_take 4 hF rfl rfl rfl (by kernel_rfl) (by kernel_rfl) (by kernel_rfl) (fun _ _ _ h => h) rfl hS (fun w hS => x_faddrA ((SL.rd hS 901 rfl)) (by omega) _ Tryd.underlying53 rfl ty51 (by decide) (hF.tmp 46 rfl) rfl) rfl ?_; clear hF; intro a hF
      refine r_take 5 hF rfl rfl rfl (by kernel_rfl) (by kernel_rfl) (by kernel_rfl) (fun _ _ _ h => h) rfl hS (fun w hS => x_load1 ty51 (hF.tmp 47 rfl) (hS 1500 _ rfl)) rfl ?_; clear hF; intro a hF
      refine r_take 6 hF rfl rfl rfl (by kernel_rfl) (by kernel_rfl) (by kernel_rfl) (fun _ _ _ h => h) rfl hS (fun w hS => x_move (hF.tmp 0 rfl)) rfl ?_; clear hF; intro a hF
      refine r_take 7 hF rfl rfl rfl (by kernel_rfl) (by kernel_rfl) (by kernel_rfl) (fun _ _ _ h => h) rfl hS (fun w hS => x_move (hF.tmp 5 rfl)) rfl ?_; clear hF; intro a hF
      refine r_take 8 hF rfl rfl rfl (by kernel_rfl) (by kernel_rfl) (by kernel_rfl) (fun _ _ _ h => h) rfl hS (fun w hS => x_iaddr_A Tryd.underlying37 ty53 ((hH.rd 901 rfl)) (hF.tmp 49 rfl) (hF.tmp 50 rfl) (by omega) (by omega) _) rfl ?_; clear hF; intro a hF
      refine r_take 9 hF rfl rfl rfl (by kernel_rfl) (by kernel_rfl) (by kernel_rfl) (fun _ _ _ h => h) rfl hS (fun w hS => x_faddrA ((SL.rd hS 901 rfl)) (by omega) _ Tryd.underlying53 rfl ty9 (by decide) (hF.tmp 51 rfl) rfl) rfl ?_; clear hF; intro a hF
      refine r_take 10 hF rfl rfl rfl (by kernel_rfl) (by kernel_rfl) (by kernel_rfl) (fun _ _ _ h => h) rfl hS (fun w hS => x_load1 ty9 (hF.tmp 52 rfl) (hS 1501 _ rfl)) rfl ?_; clear hF; intro a hF
      refine r_take 11 hF rfl rfl rfl (by kernel_rfl) (by kernel_rfl) (by kernel_rfl) (fun _ _ _ h => h) rfl hS (fun w hS => x_len_sn (xs := ((gst xs (k : Int)).2.1)) Tryd.underlying9 (hF.tmp 53 rfl)) rfl ?_; clear hF; intro a hF
      refine r_take 12 hF rfl rfl rfl (by kernel_rfl) (by kernel_rfl) (by kernel_rfl) (fun _ _ _ h => h) rfl hS (fun w hS => x_conv Tryd.underlying5 ⟨_, Tryd.underlying3⟩ (hF.tmp 54 rfl) (key_wrap hcr)) rfl ?_; clear hF; intro a hF
      refine r_take 14 hF rfl rfl rfl (by kernel_rfl) (by kernel_rfl) (by kernel_rfl) (fun _ _ _ h => h) rfl hS (fun w hS => x_move (hF.tmp 0 rfl)) rfl ?_; clear hF; intro a hF
      refine r_take 15 hF rfl rfl rfl (by kernel_rfl) (by kernel_rfl) (by kernel_rfl) (fun _ _ _ h => h) rfl hS (fun w hS => x_move (hF.tmp 5 rfl)) rfl ?_; clear hF; intro a hF
      refine r_take 16 hF rfl rfl rfl (by kernel_rfl) (by kernel_rfl) (by kernel_rfl) (fun _ _ _ h => h) rfl hS (fun w hS => x_iaddr_A Tryd.underlying37 ty53 ((hH.rd 901 rfl)) (hF.tmp 57 rfl) (hF.tmp 58 rfl) (by omega) (by omega) _) rfl ?_; clear hF; intro a hF
      refine r_take 17 hF rfl rfl rfl (by kernel_rfl) (by kernel_rfl) (by kernel_rfl) (fun _ _ _ h => h) rfl hS (fun w hS => x_faddrA ((SL.rd hS 901 rfl)) (by omega) _ Tryd.underlying53 rfl ty9 (by decide) (hF.tmp 59 rfl) rfl) rfl ?_; clear hF; intro a hF
      refine r_take 18 hF rfl rfl rfl (by kernel_rfl) (by kernel_rfl) (by kernel_rfl) (fun _ _ _ h => h) rfl hS (fun w hS => x_load1 ty9 (hF.tmp 60 rfl) (hS 1501 _ rfl)) rfl ?_; clear hF; intro a hF
      refine r_take 19 hF rfl rfl rfl (by kernel_rfl) (by kernel_rfl) (by kernel_rfl) (fun _ _ _ h => h) rfl hS (fun w hS => x_move (hF.tmp 7 rfl)) rfl ?_; clear hF; intro a hF
      refine r_take 20 hF rfl rfl rfl (by kernel_rfl) (by kernel_rfl) (by kernel_rfl) (fun _ _ _ h => h) rfl hS (fun w hS => x_adds (xs := ((gst xs (k : Int)).2.1)) (ys := (restS (gst xs (k : Int)))) (hF.tmp 61 rfl) (hF.tmp 62 rfl) (by have := key_len hcr; have := restS_len hcr (hbs _ hmem); omega)) rfl ?_; clear hF; intro a hF
      refine r_do2 13 21 rfl rfl (by kernel_rfl) rfl rfl rfl rfl ?_ ?_
      ·
       refine w_lit 40 (enc := Value.int .u8) (h1 := fun _ => rfl) ([((gst xs (k : Int)).2.1.length : Int)]) hF hH rfl Tryd.underlying28 ty5 (by simp only [List.map_toArray, List.map_cons, List.map_nil, hF.tmp 55 rfl]; rfl) rfl (by decide) (by decide) (by kernel_rfl) ?_
       clear hF hH; intro a w b56 hF hH
       clear hS; have hS : SL _ _ := SL.of hH (sub_cons (sub_cons (sub_cons (sub_cons (sub_cons (sub_cons (sub_nil _) 1503 rfl) 1502 rfl) 1501 rfl) 1500 rfl) 1499 rfl) 901 rfl); refine ⟨hS, ?_⟩
       refine r_do 21 rfl (by kernel_rfl) rfl rfl ?_
       refine w_s2b 64 (xs := (((gst xs (k : Int)).2.1) ++ (restS (gst xs (k : Int))))) hF hH rfl Tryd.underlying9 Tryd.underlying28 Tryd.underlying5 (hF.tmp 63 rfl) ((hbs _ hmem).1.app (restS_byte (hbs _ hmem))) (by have := key_len hcr; have := restS_len hcr (hbs _ hmem); simp only [List.length_append]; omega) ?_
       clear hF hH; intro a w b64 c64 hb64_ hF hH
       clear hS; have hS : SL _ _ := SL.of hH (sub_cons (sub_cons (sub_cons (sub_cons (sub_cons (sub_cons (sub_nil _) 1503 rfl) 1502 rfl) 1501 rfl) 1500 rfl) 1499 rfl) 901 rfl); refine ⟨hS, ?_⟩
       refine r_do 22 rfl (by kernel_rfl) rfl rfl ?_
       refine w_append 40 64 (xs := ([((gst xs (k : Int)).2.1.length : Int)])) (ys := (((gst xs (k : Int)).2.1) ++ (restS (gst xs (k : Int))))) hF hH rfl Tryd.underlying28 ty5 rfl rfl rfl rfl ((hH.rd 64 rfl)) (by intro k_ hk_; exact .inr hk_) (hF.tmp 56 rfl) (hF.tmp 64 rfl) (by have := key_len hcr; have := restS_len hcr (hbs _ hmem); simp only [List.length_cons, List.length_nil, List.length_append]; omega) (by have := key_len hcr; have := restS_len hcr (hbs _ hmem); simp only [List.length_cons, List.length_nil, List.length_append, maxLen]; omega) (fun _ => False) (fun w' v' h => row_flat h _) (fun k_ hk_ => hk_.elim) ?_
       clear hF hH; intro a w v65 hF hH
       clear hS; have hS : SL _ _ := SL.of hH (sub_cons (sub_cons (sub_cons (sub_cons (sub_cons (sub_cons (sub_nil _) 1503 rfl) 1502 rfl) 1501 rfl) 1500 rfl) 1499 rfl) 901 rfl); refine ⟨hS, ?_⟩
       obtain ⟨A65, c65, rfl⟩ := (hH.row 40 rfl).form
       have hH := hH.freeze 40 rfl (fun kb => (Value.slice A65 (([((gst xs (k : Int)).2.1.length : Int)]) ++ (((gst xs (k : Int)).2.1) ++ (restS (gst xs (k : Int))))).length c65).ownBlock = some kb) (fun kb => ⟨fun h => .inr h, fun h => h.resolve_left id⟩)
       refine r_take 23 hF rfl rfl rfl (by kernel_rfl) (by kernel_rfl) (by kernel_rfl) (fun _ _ _ h => h) rfl hS (fun w hS => x_buildS (cells := #[.int .i64 (gst xs (k : Int)).1, .slice A65 (([((gst xs (k : Int)).2.1.length : Int)]) ++ (((gst xs (k : Int)).2.1) ++ (restS (gst xs (k : Int))))).length c65]) (places := #[(0, 1), (1, 1)]) Tryd.underlying99 ty99 (by kernel_rfl) (by simp only [List.map_toArray, List.map_cons, List.map_nil, hF.tmp 48 rfl, hF.tmp 65 rfl] <;> rfl) rfl) rfl ?_; clear hF; intro a hF
       refine r_do 24 rfl (by kernel_rfl) rfl rfl ?_
       refine w_lit1 67 FE (((gst xs (k : Int)).1, (([((gst xs (k : Int)).2.1.length : Int)]) ++ (((gst xs (k : Int)).2.1) ++ (restS (gst xs (k : Int)))))) : Fld) #[.int .i64 ((gst xs (k : Int)).1), .slice A65 (([((gst xs (k : Int)).2.1.length : Int)]) ++ (((gst xs (k : Int)).2.1) ++ (restS (gst xs (k : Int))))).length c65] (fun kb => (Value.slice A65 (([((gst xs (k : Int)).2.1.length : Int)]) ++ (((gst xs (k : Int)).2.1) ++ (restS (gst xs (k : Int))))).length c65).ownBlock = some kb) hF hH rfl Tryd.underlying100 ty99 (by simp only [List.map_toArray, List.map_cons, List.map_nil, hF.tmp 66 rfl] <;> rfl) (by decide) (by kernel_rfl) (fld_mk (f := (((gst xs (k : Int)).1, (([((gst xs (k : Int)).2.1.length : Int)]) ++ (((gst xs (k : Int)).2.1) ++ (restS (gst xs (k : Int)))))) : Fld)) ((hH.rd 40 rfl))) (fun kb hk => ⟨40, _, rfl, hk⟩) ?_
       clear hF hH; intro a w b67 hF hb67_ hH
       clear hS; have hS : SL _ _ := SL.of hH (sub_cons (sub_cons (sub_cons (sub_cons (sub_cons (sub_cons (sub_nil _) 1503 rfl) 1502 rfl) 1501 rfl) 1500 rfl) 1499 rfl) 901 rfl); refine ⟨hS, ?_⟩
       refine r_do 25 rfl (by kernel_rfl) rfl rfl ?_
       refine w_append 4 67 (xs := ((xs.take k).map fldS)) (ys := ([(((gst xs (k : Int)).1, (([((gst xs (k : Int)).2.1.length : Int)]) ++ (((gst xs (k : Int)).2.1) ++ (restS (gst xs (k : Int)))))) : Fld)])) hF hH rfl Tryd.underlying100 ty99 rfl rfl rfl rfl ((hH.rd 67 rfl)) (by intro k_ hk_; exact .inr hk_) (hF.tmp 43 rfl) (hF.tmp 67 rfl) (by simp only [List.length_append, List.length_nil, List.length_cons, List.length_map, List.length_take] at *; omega) (by simp only [List.length_append, List.length_nil, List.length_cons, List.length_map, List.length_take, maxLen] at *; omega) (fun kb => okv kb ∨ (fun kb => (fun kb => (Value.slice A65 (([((gst xs (k : Int)).2.1.length : Int)]) ++ (((gst xs (k : Int)).2.1) ++ (restS (gst xs (k : Int))))).length c65).ownBlock = some kb) kb ∨ kb = b67) kb) (fun w' v' h => h) (by rintro k_ (hk_ | hk_); exact .inl hk_; exact .inr hk_) ?_
       clear hF hH; intro a w v68 hF hH
       clear hS; have hS : SL _ _ := SL.of hH (sub_cons (sub_cons (sub_cons (sub_cons (sub_cons (sub_cons (sub_nil _) 1503 rfl) 1502 rfl) 1501 rfl) 1500 rfl) 1499 rfl) 901 rfl); refine ⟨hS, ?_⟩
       refine r_take 26 hF rfl rfl rfl (by kernel_rfl) (by kernel_rfl) (by kernel_rfl) (fun _ _ _ h => h) rfl hS (fun w hS => x_assign (hF.tmp 68 rfl)) rfl ?_; clear hF; intro a hF
       refine r_end (by kernel_rfl) ?_; clear hS
       refine hK10 _ _ ?_
       refine wp_region_lit ?_
       refine l_at hF rfl rfl rfl (x_move (hF.tmp 5 rfl)) ?_; clear hF; intro a hF
       refine l_at hF rfl rfl rfl (x_add (hF.tmp 17 rfl) rfl (w64 (by omega) (by omega))) ?_; clear hF; intro a hF
       refine l_at hF rfl rfl rfl (x_assign (hF.tmp 18 rfl)) ?_; clear hF; intro a hF
       refine wpList_nil ?_
       have hHs : Hp (fun _ => False) w0 w [(901, .rd_ StE A xs c (fun k => k < w0.heap.size)), (4, .row FE 99 v68 (((xs.take k).map fldS) ++ [(((gst xs (k : Int)).1, ([(((gst xs (k : Int)).2.1.length : Int))] ++ ((gst xs (k : Int)).2.1 ++ restS (gst xs (k : Int))))) : Fld)]) (fun kb => okv kb ∨ (fun kb => (fun kb => (Value.slice A65 (([((gst xs (k : Int)).2.1.length : Int)]) ++ (((gst xs (k : Int)).2.1) ++ (restS (gst xs (k : Int))))).length c65).ownBlock = some kb) kb ∨ kb = b67) kb))] := hH.sub _ (sub_cons (sub_cons (sub_nil _) 4 rfl) 901 rfl)
       rw [show ((xs.take k).map fldS) ++ [(((gst xs (k : Int)).1, ([(((gst xs (k : Int)).2.1.length : Int))] ++ ((gst xs (k : Int)).2.1 ++ restS (gst xs (k : Int))))) : Fld)] = (xs.take (k + 1)).map fldS from fld_stepL hc16] at hHs
       exact ⟨_, by omega, ⟨k + 1, v68, (fun kb => okv kb ∨ (fun kb => (fun kb => (Value.slice A65 (([((gst xs (k : Int)).2.1.length : Int)]) ++ (((gst xs (k : Int)).2.1) ++ (restS (gst xs (k : Int))))).length c65).ownBlock = some kb) kb ∨ kb = b67) kb), rfl, by omega, right_step hc16 hq0_1 hcr, (((hF.bare.add hF 5 rfl).add hF 4 rfl).add hF 0 rfl), hHs⟩⟩
      ·
       refine w_s2b 64 (xs := (((gst xs (k : Int)).2.1) ++ (restS (gst xs (k : Int))))) hF hH rfl Tryd.underlying9 Tryd.underlying28 Tryd.underlying5 (hF.tmp 63 rfl) ((hbs _ hmem).1.app (restS_byte (hbs _ hmem))) (by have := key_len hcr; have := restS_len hcr (hbs _ hmem); simp only [List.length_append]; omega) ?_
       clear hF hH; intro a w b64 c64 hb64_ hF hH
       clear hS; have hS : SL _ _ := SL.of hH (sub_cons (sub_cons (sub_cons (sub_cons (sub_cons (sub_cons (sub_nil _) 1503 rfl) 1502 rfl) 1501 rfl) 1500 rfl) 1499 rfl) 901 rfl); refine ⟨hS, ?_⟩
       refine r_do 13 rfl (by kernel_rfl) rfl rfl ?_
       refine w_lit 40 (enc := Value.int .u8) (h1 := fun _ => rfl) ([((gst xs (k : Int)).2.1.length : Int)]) hF hH rfl Tryd.underlying28 ty5 (by simp only [List.map_toArray, List.map_cons, List.map_nil, hF.tmp 55 rfl]; rfl) rfl (by decide) (by decide) (by kernel_rfl) ?_
       clear hF hH; intro a w b56 hF hH
       clear hS; have hS : SL _ _ := SL.of hH (sub_cons (sub_cons (sub_cons (sub_cons (sub_cons (sub_cons (sub_nil _) 1503 rfl) 1502 rfl) 1501 rfl) 1500 rfl) 1499 rfl) 901 rfl); refine ⟨hS, ?_⟩
       refine r_do 22 rfl (by kernel_rfl) rfl rfl ?_
       refine w_append 40 64 (xs := ([((gst xs (k : Int)).2.1.length : Int)])) (ys := (((gst xs (k : Int)).2.1) ++ (restS (gst xs (k : Int))))) hF hH rfl Tryd.underlying28 ty5 rfl rfl rfl rfl ((hH.rd 64 rfl)) (by intro k_ hk_; exact .inr hk_) (hF.tmp 56 rfl) (hF.tmp 64 rfl) (by have := key_len hcr; have := restS_len hcr (hbs _ hmem); simp only [List.length_cons, List.length_nil, List.length_append]; omega) (by have := key_len hcr; have := restS_len hcr (hbs _ hmem); simp only [List.length_cons, List.length_nil, List.length_append, maxLen]; omega) (fun _ => False) (fun w' v' h => row_flat h _) (fun k_ hk_ => hk_.elim) ?_
       clear hF hH; intro a w v65 hF hH
       clear hS; have hS : SL _ _ := SL.of hH (sub_cons (sub_cons (sub_cons (sub_cons (sub_cons (sub_cons (sub_nil _) 1503 rfl) 1502 rfl) 1501 rfl) 1500 rfl) 1499 rfl) 901 rfl); refine ⟨hS, ?_⟩
       obtain ⟨A65, c65, rfl⟩ := (hH.row 40 rfl).form
       have hH := hH.freeze 40 rfl (fun kb => (Value.slice A65 (([((gst xs (k : Int)).2.1.length : Int)]) ++ (((gst xs (k : Int)).2.1) ++ (restS (gst xs (k : Int))))).length c65).ownBlock = some kb) (fun kb => ⟨fun h => .inr h, fun h => h.resolve_left id⟩)
       refine r_take 23 hF rfl rfl rfl (by kernel_rfl) (by kernel_rfl) (by kernel_rfl) (fun _ _ _ h => h) rfl hS (fun w hS => x_buildS (cells := #[.int .i64 (gst xs (k : Int)).1, .slice A65 (([((gst xs (k : Int)).2.1.length : Int)]) ++ (((gst xs (k : Int)).2.1) ++ (restS (gst xs (k : Int))))).length c65]) (places := #[(0, 1), (1, 1)]) Tryd.underlying99 ty99 (by kernel_rfl) (by simp only [List.map_toArray, List.map_cons, List.map_nil, hF.tmp 48 rfl, hF.tmp 65 rfl] <;> rfl) rfl) rfl ?_; clear hF; intro a hF
       refine r_do 24 rfl (by kernel_rfl) rfl rfl ?_
       refine w_lit1 67 FE (((gst xs (k : Int)).1, (([((gst xs (k : Int)).2.1.length : Int)]) ++ (((gst xs (k : Int)).2.1) ++ (restS (gst xs (k : Int)))))) : Fld) #[.int .i64 ((gst xs (k : Int)).1), .slice A65 (([((gst xs (k : Int)).2.1.length : Int)]) ++ (((gst xs (k : Int)).2.1) ++ (restS (gst xs (k : Int))))).length c65] (fun kb => (Value.slice A65 (([((gst xs (k : Int)).2.1.length : Int)]) ++ (((gst xs (k : Int)).2.1) ++ (restS (gst xs (k : Int))))).length c65).ownBlock = some kb) hF hH rfl Tryd.underlying100 ty99 (by simp only [List.map_toArray, List.map_cons, List.map_nil, hF.tmp 66 rfl] <;> rfl) (by decide) (by kernel_rfl) (fld_mk (f := (((gst xs (k : Int)).1, (([((gst xs (k : Int)).2.1.length : Int)]) ++ (((gst xs (k : Int)).2.1) ++ (restS (gst xs (k : Int)))))) : Fld)) ((hH.rd 40 rfl))) (fun kb hk => ⟨40, _, rfl, hk⟩) ?_
       clear hF hH; intro a w b67 hF hb67_ hH
       clear hS; have hS : SL _ _ := SL.of hH (sub_cons (sub_cons (sub_cons (sub_cons (sub_cons (sub_cons (sub_nil _) 1503 rfl) 1502 rfl) 1501 rfl) 1500 rfl) 1499 rfl) 901 rfl); refine ⟨hS, ?_⟩
       refine r_do 25 rfl (by kernel_rfl) rfl rfl ?_
       refine w_append 4 67 (xs := ((xs.take k).map fldS)) (ys := ([(((gst xs (k : Int)).1, (([((gst xs (k : Int)).2.1.length : Int)]) ++ (((gst xs (k : Int)).2.1) ++ (restS (gst xs (k : Int)))))) : Fld)])) hF hH rfl Tryd.underlying100 ty99 rfl rfl rfl rfl ((hH.rd 67 rfl)) (by intro k_ hk_; exact .inr hk_) (hF.tmp 43 rfl) (hF.tmp 67 rfl) (by simp only [List.length_append, List.length_nil, List.length_cons, List.length_map, List.length_take] at *; omega) (by simp only [List.length_append, List.length_nil, List.length_cons, List.length_map, List.length_take, maxLen] at *; omega) (fun kb => okv kb ∨ (fun kb => (fun kb => (Value.slice A65 (([((gst xs (k : Int)).2.1.length : Int)]) ++ (((gst xs (k : Int)).2.1) ++ (restS (gst xs (k : Int))))).length c65).ownBlock = some kb) kb ∨ kb = b67) kb) (fun w' v' h => h) (by rintro k_ (hk_ | hk_); exact .inl hk_; exact .inr hk_) ?_
       clear hF hH; intro a w v68 hF hH
       clear hS; have hS : SL _ _ := SL.of hH (sub_cons (sub_cons (sub_cons (sub_cons (sub_cons (sub_cons (sub_nil _) 1503 rfl) 1502 rfl) 1501 rfl) 1500 rfl) 1499 rfl) 901 rfl); refine ⟨hS, ?_⟩
       refine r_take 26 hF rfl rfl rfl (by kernel_rfl) (by kernel_rfl) (by kernel_rfl) (fun _ _ _ h => h) rfl hS (fun w hS => x_assign (hF.tmp 68 rfl)) rfl ?_; clear hF; intro a hF
       refine r_end (by kernel_rfl) ?_; clear hS
       refine hK10 _ _ ?_
       refine wp_region_lit ?_
       refine l_at hF rfl rfl rfl (x_move (hF.tmp 5 rfl)) ?_; clear hF; intro a hF
       refine l_at hF rfl rfl rfl (x_add (hF.tmp 17 rfl) rfl (w64 (by omega) (by omega))) ?_; clear hF; intro a hF
       refine l_at hF rfl rfl rfl (x_assign (hF.tmp 18 rfl)) ?_; clear hF; intro a hF
       refine wpList_nil ?_
       have hHs : Hp (fun _ => False) w0 w [(901, .rd_ StE A xs c (fun k => k < w0.heap.size)), (4, .row FE 99 v68 (((xs.take k).map fldS) ++ [(((gst xs (k : Int)).1, ([(((gst xs (k : Int)).2.1.length : Int))] ++ ((gst xs (k : Int)).2.1 ++ restS (gst xs (k : Int))))) : Fld)]) (fun kb => okv kb ∨ (fun kb => (fun kb => (Value.slice A65 (([((gst xs (k : Int)).2.1.length : Int)]) ++ (((gst xs (k : Int)).2.1) ++ (restS (gst xs (k : Int))))).length c65).ownBlock = some kb) kb ∨ kb = b67) kb))] := hH.sub _ (sub_cons (sub_cons (sub_nil _) 4 rfl) 901 rfl)
       rw [show ((xs.take k).map fldS) ++ [(((gst xs (k : Int)).1, ([(((gst xs (k : Int)).2.1.length : Int))] ++ ((gst xs (k : Int)).2.1 ++ restS (gst xs (k : Int))))) : Fld)] = (xs.take (k + 1)).map fldS from fld_stepL hc16] at hHs
       exact ⟨_, by omega, ⟨k + 1, v68, (fun kb => okv kb ∨ (fun kb => (fun kb => (Value.slice A65 (([((gst xs (k : Int)).2.1.length : Int)]) ++ (((gst xs (k : Int)).2.1) ++ (restS (gst xs (k : Int))))).length c65).ownBlock = some kb) kb ∨ kb = b67) kb), rfl, by omega, right_step hc16 hq0_1 hcr, (((hF.bare.add hF 5 rfl).add hF 4 rfl).add hF 0 rfl), hHs⟩⟩
     ·have hk36_7 := hc36; try simp only [Bool.or_eq_true, Bool.and_eq_true, Bool.or_eq_false_iff, Bool.and_eq_false_iff, Bool.not_eq_true', Bool.not_eq_false', decide_eq_true_eq, decide_eq_false_iff_not, Bool.not_true, Bool.not_false] at hc36
      refine wp_skip ?_
      refine hK16 _ _ ?_
      refine r_start [(901, .rd_ StE A xs c (fun k => k < w0.heap.size)), (1499, .cels (adr A (Int.toNat (k : Int) * 4)) #[.int .i64 (gst xs (k : Int)).1, .string (strOfNums (gst xs (k : Int)).2.1), .string (strOfNums (gst xs (k : Int)).2.2.1), .int .i64 (gst xs (k : Int)).2.2.2]), (1500, .cel (adr A (Int.toNat (k : Int) * 4)) (.int .i64 (gst xs (k : Int)).1)), (1501, .cel (adr A (Int.toNat (k : Int) * 4 + 1)) (.string (strOfNums (gst xs (k : Int)).2.1))), (1502, .cel (adr A (Int.toNat (k : Int) * 4 + 2)) (.string (strOfNums (gst xs (k : Int)).2.2.1))), (1503, .cel (adr A (Int.toNat (k : Int) * 4 + 3)) (.int .i64 (gst xs (k : Int)).2.2.2))] (by kernel_rfl) hH fun hH => ?_
      have hS : SL [(901, .rd_ StE A xs c (fun k => k < w0.heap.size)), (1499, .cels (adr A (Int.toNat (k : Int) * 4)) #[.int .i64 (gst xs (k : Int)).1, .string (strOfNums (gst xs (k : Int)).2.1), .string (strOfNums (gst xs (k : Int)).2.2.1), .int .i64 (gst xs (k : Int)).2.2.2]), (1500, .cel (adr A (Int.toNat (k : Int) * 4)) (.int .i64 (gst xs (k : Int)).1)), (1501, .cel (adr A (Int.toNat (k : Int) * 4 + 1)) (.string (strOfNums (gst xs (k : Int)).2.1))), (1502, .cel (adr A (Int.toNat (k : Int) * 4 + 2)) (.string (strOfNums (gst xs (k : Int)).2.2.1))), (1503, .cel (adr A (Int.toNat (k : Int) * 4 + 3)) (.int .i64 (gst xs (k : Int)).2.2.2))] _ := SL.of hH (sub_cons (sub_cons (sub_cons (sub_cons (sub_cons (sub_cons (sub_nil _) 1503 rfl) 1502 rfl) 1501 rfl) 1500 rfl) 1499 rfl) 901 rfl)
      rw [restS_val hc36] at hF
      refine r_take 0 hF rfl rfl rfl (by kernel_rfl) (by kernel_rfl) (by kernel_rfl) (fun _ _ _ h => h) rfl hS (fun w hS => x_move (hF.tmp 4 rfl)) rfl ?_; clear hF; intro a hF
      refine r_take 1 hF rfl rfl rfl (by kernel_rfl) (by kernel_rfl) (by kernel_rfl) (fun _ _ _ h => h) rfl hS (fun w hS => x_move (hF.tmp 0 rfl)) rfl ?_; clear hF; intro a hF
      refine r_take 2 hF rfl rfl rfl (by kernel_rfl) (by kernel_rfl) (by kernel_rfl) (fun _ _ _ h => h) rfl hS (fun w hS => x_move (hF.tmp 5 rfl)) rfl ?_; clear hF; intro a hF
      refine r_take 3 hF rfl rfl rfl (by kernel_rfl) (by kernel_rfl) (by kernel_rfl) (fun _ _ _ h => h) rfl hS (fun w hS => x_iaddr_A Tryd.underlying37 ty53 ((hH.rd 901 rfl)) (hF.tmp 44 rfl) (hF.tmp 45 rfl) (by omega) (by omega) _) rfl ?_; clear hF; intro a hF
      refine r_take 4 hF rfl rfl rfl (by kernel_rfl) (by kernel_rfl) (by kernel_rfl) (fun _ _ _ h => h) rfl hS (fun w hS => x_faddrA ((SL.rd hS 901 rfl)) (by omega) _ Tryd.underlying53 rfl ty51 (by decide) (hF.tmp 46 rfl) rfl) rfl ?_; clear hF; intro a hF
      refine r_take 5 hF rfl rfl rfl (by kernel_rfl) (by kernel_rfl) (by kernel_rfl) (fun _ _ _ h => h) rfl hS (fun w hS => x_load1 ty51 (hF.tmp 47 rfl) (hS 1500 _ rfl)) rfl ?_; clear hF; intro a hF
      refine r_take 6 hF rfl rfl rfl (by kernel_rfl) (by kernel_rfl) (by kernel_rfl) (fun _ _ _ h => h) rfl hS (fun w hS => x_move (hF.tmp 0 rfl)) rfl ?_; clear hF; intro a hF
      refine r_take 7 hF rfl rfl rfl (by kernel_rfl) (by kernel_rfl) (by kernel_rfl) (fun _ _ _ h => h) rfl hS (fun w hS => x_move (hF.tmp 5 rfl)) rfl ?_; clear hF; intro a hF
      refine r_take 8 hF rfl rfl rfl (by kernel_rfl) (by kernel_rfl) (by kernel_rfl) (fun _ _ _ h => h) rfl hS (fun w hS => x_iaddr_A Tryd.underlying37 ty53 ((hH.rd 901 rfl)) (hF.tmp 49 rfl) (hF.tmp 50 rfl) (by omega) (by omega) _) rfl ?_; clear hF; intro a hF
      refine r_take 9 hF rfl rfl rfl (by kernel_rfl) (by kernel_rfl) (by kernel_rfl) (fun _ _ _ h => h) rfl hS (fun w hS => x_faddrA ((SL.rd hS 901 rfl)) (by omega) _ Tryd.underlying53 rfl ty9 (by decide) (hF.tmp 51 rfl) rfl) rfl ?_; clear hF; intro a hF
      refine r_take 10 hF rfl rfl rfl (by kernel_rfl) (by kernel_rfl) (by kernel_rfl) (fun _ _ _ h => h) rfl hS (fun w hS => x_load1 ty9 (hF.tmp 52 rfl) (hS 1501 _ rfl)) rfl ?_; clear hF; intro a hF
      refine r_take 11 hF rfl rfl rfl (by kernel_rfl) (by kernel_rfl) (by kernel_rfl) (fun _ _ _ h => h) rfl hS (fun w hS => x_len_sn (xs := ((gst xs (k : Int)).2.1)) Tryd.underlying9 (hF.tmp 53 rfl)) rfl ?_; clear hF; intro a hF
      refine r_take 12 hF rfl rfl rfl (by kernel_rfl) (by kernel_rfl) (by kernel_rfl) (fun _ _ _ h => h) rfl hS (fun w hS => x_conv Tryd.underlying5 ⟨_, Tryd.underlying3⟩ (hF.tmp 54 rfl) (key_wrap hcr)) rfl ?_; clear hF; intro a hF
      refine r_take 14 hF rfl rfl rfl (by kernel_rfl) (by kernel_rfl) (by kernel_rfl) (fun _ _ _ h => h) rfl hS (fun w hS => x_move (hF.tmp 0 rfl)) rfl ?_; clear hF; intro a hF
      refine r_take 15 hF rfl rfl rfl (by kernel_rfl) (by kernel_rfl) (by kernel_rfl) (fun _ _ _ h => h) rfl hS (fun w hS => x_move (hF.tmp 5 rfl)) rfl ?_; clear hF; intro a hF
      refine r_take 16 hF rfl rfl rfl (by kernel_rfl) (by kernel_rfl) (by kernel_rfl) (fun _ _ _ h => h) rfl hS (fun w hS => x_iaddr_A Tryd.underlying37 ty53 ((hH.rd 901 rfl)) (hF.tmp 57 rfl) (hF.tmp 58 rfl) (by omega) (by omega) _) rfl ?_; clear hF; intro a hF
      refine r_take 17 hF rfl rfl rfl (by kernel_rfl) (by kernel_rfl) (by kernel_rfl) (fun _ _ _ h => h) rfl hS (fun w hS => x_faddrA ((SL.rd hS 901 rfl)) (by omega) _ Tryd.underlying53 rfl ty9 (by decide) (hF.tmp 59 rfl) rfl) rfl ?_; clear hF; intro a hF
      refine r_take 18 hF rfl rfl rfl (by kernel_rfl) (by kernel_rfl) (by kernel_rfl) (fun _ _ _ h => h) rfl hS (fun w hS => x_load1 ty9 (hF.tmp 60 rfl) (hS 1501 _ rfl)) rfl ?_; clear hF; intro a hF
      refine r_take 19 hF rfl rfl rfl (by kernel_rfl) (by kernel_rfl) (by kernel_rfl) (fun _ _ _ h => h) rfl hS (fun w hS => x_move (hF.tmp 7 rfl)) rfl ?_; clear hF; intro a hF
      refine r_take 20 hF rfl rfl rfl (by kernel_rfl) (by kernel_rfl) (by kernel_rfl) (fun _ _ _ h => h) rfl hS (fun w hS => x_adds (xs := ((gst xs (k : Int)).2.1)) (ys := (restS (gst xs (k : Int)))) (hF.tmp 61 rfl) (hF.tmp 62 rfl) (by have := key_len hcr; have := restS_len hcr (hbs _ hmem); omega)) rfl ?_; clear hF; intro a hF
      refine r_do2 13 21 rfl rfl (by kernel_rfl) rfl rfl rfl rfl ?_ ?_
      ·
       refine w_lit 40 (enc := Value.int .u8) (h1 := fun _ => rfl) ([((gst xs (k : Int)).2.1.length : Int)]) hF hH rfl Tryd.underlying28 ty5 (by simp only [List.map_toArray, List.map_cons, List.map_nil, hF.tmp 55 rfl]; rfl) rfl (by decide) (by decide) (by kernel_rfl) ?_
       clear hF hH; intro a w b56 hF hH
       clear hS; have hS : SL _ _ := SL.of hH (sub_cons (sub_cons (sub_cons (sub_cons (sub_cons (sub_cons (sub_nil _) 1503 rfl) 1502 rfl) 1501 rfl) 1500 rfl) 1499 rfl) 901 rfl); refine ⟨hS, ?_⟩
       refine r_do 21 rfl (by kernel_rfl) rfl rfl ?_
       refine w_s2b 64 (xs := (((gst xs (k : Int)).2.1) ++ (restS (gst xs (k : Int))))) hF hH rfl Tryd.underlying9 Tryd.underlying28 Tryd.underlying5 (hF.tmp 63 rfl) ((hbs _ hmem).1.app (restS_byte (hbs _ hmem))) (by have := key_len hcr; have := restS_len hcr (hbs _ hmem); simp only [List.length_append]; omega) ?_
       clear hF hH; intro a w b64 c64 hb64_ hF hH
       clear hS; have hS : SL _ _ := SL.of hH (sub_cons (sub_cons (sub_cons (sub_cons (sub_cons (sub_cons (sub_nil _) 1503 rfl) 1502 rfl) 1501 rfl) 1500 rfl) 1499 rfl) 901 rfl); refine ⟨hS, ?_⟩
       refine r_do 22 rfl (by kernel_rfl) rfl rfl ?_
       refine w_append 40 64 (xs := ([((gst xs (k : Int)).2.1.length : Int)])) (ys := (((gst xs (k : Int)).2.1) ++ (restS (gst xs (k : Int))))) hF hH rfl Tryd.underlying28 ty5 rfl rfl rfl rfl ((hH.rd 64 rfl)) (by intro k_ hk_; exact .inr hk_) (hF.tmp 56 rfl) (hF.tmp 64 rfl) (by have := key_len hcr; have := restS_len hcr (hbs _ hmem); simp only [List.length_cons, List.length_nil, List.length_append]; omega) (by have := key_len hcr; have := restS_len hcr (hbs _ hmem); simp only [List.length_cons, List.length_nil, List.length_append, maxLen]; omega) (fun _ => False) (fun w' v' h => row_flat h _) (fun k_ hk_ => hk_.elim) ?_
       clear hF hH; intro a w v65 hF hH
       clear hS; have hS : SL _ _ := SL.of hH (sub_cons (sub_cons (sub_cons (sub_cons (sub_cons (sub_cons (sub_nil _) 1503 rfl) 1502 rfl) 1501 rfl) 1500 rfl) 1499 rfl) 901 rfl); refine ⟨hS, ?_⟩
       obtain ⟨A65, c65, rfl⟩ := (hH.row 40 rfl).form
       have hH := hH.freeze 40 rfl (fun kb => (Value.slice A65 (([((gst xs (k : Int)).2.1.length : Int)]) ++ (((gst xs (k : Int)).2.1) ++ (restS (gst xs (k : Int))))).length c65).ownBlock = some kb) (fun kb => ⟨fun h => .inr h, fun h => h.resolve_left id⟩)
       refine r_take 23 hF rfl rfl rfl (by kernel_rfl) (by kernel_rfl) (by kernel_rfl) (fun _ _ _ h => h) rfl hS (fun w hS => x_buildS (cells := #[.int .i64 (gst xs (k : Int)).1, .slice A65 (([((gst xs (k : Int)).2.1.length : Int)]) ++ (((gst xs (k : Int)).2.1) ++ (restS (gst xs (k : Int))))).length c65]) (places := #[(0, 1), (1, 1)]) Tryd.underlying99 ty99 (by kernel_rfl) (by simp only [List.map_toArray, List.map_cons, List.map_nil, hF.tmp 48 rfl, hF.tmp 65 rfl] <;> rfl) rfl) rfl ?_; clear hF; intro a hF
       refine r_do 24 rfl (by kernel_rfl) rfl rfl ?_
       refine w_lit1 67 FE (((gst xs (k : Int)).1, (([((gst xs (k : Int)).2.1.length : Int)]) ++ (((gst xs (k : Int)).2.1) ++ (restS (gst xs (k : Int)))))) : Fld) #[.int .i64 ((gst xs (k : Int)).1), .slice A65 (([((gst xs (k : Int)).2.1.length : Int)]) ++ (((gst xs (k : Int)).2.1) ++ (restS (gst xs (k : Int))))).length c65] (fun kb => (Value.slice A65 (([((gst xs (k : Int)).2.1.length : Int)]) ++ (((gst xs (k : Int)).2.1) ++ (restS (gst xs (k : Int))))).length c65).ownBlock = some kb) hF hH rfl Tryd.underlying100 ty99 (by simp only [List.map_toArray, List.map_cons, List.map_nil, hF.tmp 66 rfl] <;> rfl) (by decide) (by kernel_rfl) (fld_mk (f := (((gst xs (k : Int)).1, (([((gst xs (k : Int)).2.1.length : Int)]) ++ (((gst xs (k : Int)).2.1) ++ (restS (gst xs (k : Int)))))) : Fld)) ((hH.rd 40 rfl))) (fun kb hk => ⟨40, _, rfl, hk⟩) ?_
       clear hF hH; intro a w b67 hF hb67_ hH
       clear hS; have hS : SL _ _ := SL.of hH (sub_cons (sub_cons (sub_cons (sub_cons (sub_cons (sub_cons (sub_nil _) 1503 rfl) 1502 rfl) 1501 rfl) 1500 rfl) 1499 rfl) 901 rfl); refine ⟨hS, ?_⟩
       refine r_do 25 rfl (by kernel_rfl) rfl rfl ?_
       refine w_append 4 67 (xs := ((xs.take k).map fldS)) (ys := ([(((gst xs (k : Int)).1, (([((gst xs (k : Int)).2.1.length : Int)]) ++ (((gst xs (k : Int)).2.1) ++ (restS (gst xs (k : Int)))))) : Fld)])) hF hH rfl Tryd.underlying100 ty99 rfl rfl rfl rfl ((hH.rd 67 rfl)) (by intro k_ hk_; exact .inr hk_) (hF.tmp 43 rfl) (hF.tmp 67 rfl) (by simp only [List.length_append, List.length_nil, List.length_cons, List.length_map, List.length_take] at *; omega) (by simp only [List.length_append, List.length_nil, List.length_cons, List.length_map, List.length_take, maxLen] at *; omega) (fun kb => okv kb ∨ (fun kb => (fun kb => (Value.slice A65 (([((gst xs (k : Int)).2.1.length : Int)]) ++ (((gst xs (k : Int)).2.1) ++ (restS (gst xs (k : Int))))).length c65).ownBlock = some kb) kb ∨ kb = b67) kb) (fun w' v' h => h) (by rintro k_ (hk_ | hk_); exact .inl hk_; exact .inr hk_) ?_
       clear hF hH; intro a w v68 hF hH
       clear hS; have hS : SL _ _ := SL.of hH (sub_cons (sub_cons (sub_cons (sub_cons (sub_cons (sub_cons (sub_nil _) 1503 rfl) 1502 rfl) 1501 rfl) 1500 rfl) 1499 rfl) 901 rfl); refine ⟨hS, ?_⟩
       refine r_take 26 hF rfl rfl rfl (by kernel_rfl) (by kernel_rfl) (by kernel_rfl) (fun _ _ _ h => h) rfl hS (fun w hS => x_assign (hF.tmp 68 rfl)) rfl ?_; clear hF; intro a hF
       refine r_end (by kernel_rfl) ?_; clear hS
       refine hK10 _ _ ?_
       refine wp_region_lit ?_
       refine l_at hF rfl rfl rfl (x_move (hF.tmp 5 rfl)) ?_; clear hF; intro a hF
       refine l_at hF rfl rfl rfl (x_add (hF.tmp 17 rfl) rfl (w64 (by omega) (by omega))) ?_; clear hF; intro a hF
       refine l_at hF rfl rfl rfl (x_assign (hF.tmp 18 rfl)) ?_; clear hF; intro a hF
       refine wpList_nil ?_
       have hHs : Hp (fun _ => False) w0 w [(901, .rd_ StE A xs c (fun k => k < w0.heap.size)), (4, .row FE 99 v68 (((xs.take k).map fldS) ++ [(((gst xs (k : Int)).1, ([(((gst xs (k : Int)).2.1.length : Int))] ++ ((gst xs (k : Int)).2.1 ++ restS (gst xs (k : Int))))) : Fld)]) (fun kb => okv kb ∨ (fun kb => (fun kb => (Value.slice A65 (([((gst xs (k : Int)).2.1.length : Int)]) ++ (((gst xs (k : Int)).2.1) ++ (restS (gst xs (k : Int))))).length c65).ownBlock = some kb) kb ∨ kb = b67) kb))] := hH.sub _ (sub_cons (sub_cons (sub_nil _) 4 rfl) 901 rfl)
       rw [show ((xs.take k).map fldS) ++ [(((gst xs (k : Int)).1, ([(((gst xs (k : Int)).2.1.length : Int))] ++ ((gst xs (k : Int)).2.1 ++ restS (gst xs (k : Int))))) : Fld)] = (xs.take (k + 1)).map fldS from fld_stepL hc16] at hHs
       exact ⟨_, by omega, ⟨k + 1, v68, (fun kb => okv kb ∨ (fun kb => (fun kb => (Value.slice A65 (([((gst xs (k : Int)).2.1.length : Int)]) ++ (((gst xs (k : Int)).2.1) ++ (restS (gst xs (k : Int))))).length c65).ownBlock = some kb) kb ∨ kb = b67) kb), rfl, by omega, right_step hc16 hq0_1 hcr, (((hF.bare.add hF 5 rfl).add hF 4 rfl).add hF 0 rfl), hHs⟩⟩
      ·
       refine w_s2b 64 (xs := (((gst xs (k : Int)).2.1) ++ (restS (gst xs (k : Int))))) hF hH rfl Tryd.underlying9 Tryd.underlying28 Tryd.underlying5 (hF.tmp 63 rfl) ((hbs _ hmem).1.app (restS_byte (hbs _ hmem))) (by have := key_len hcr; have := restS_len hcr (hbs _ hmem); simp only [List.length_append]; omega) ?_
       clear hF hH; intro a w b64 c64 hb64_ hF hH
       clear hS; have hS : SL _ _ := SL.of hH (sub_cons (sub_cons (sub_cons (sub_cons (sub_cons (sub_cons (sub_nil _) 1503 rfl) 1502 rfl) 1501 rfl) 1500 rfl) 1499 rfl) 901 rfl); refine ⟨hS, ?_⟩
       refine r_do 13 rfl (by kernel_rfl) rfl rfl ?_
       refine w_lit 40 (enc := Value.int .u8) (h1 := fun _ => rfl) ([((gst xs (k : Int)).2.1.length : Int)]) hF hH rfl Tryd.underlying28 ty5 (by simp only [List.map_toArray, List.map_cons, List.map_nil, hF.tmp 55 rfl]; rfl) rfl (by decide) (by decide) (by kernel_rfl) ?_
       clear hF hH; intro a w b56 hF hH
       clear hS; have hS : SL _ _ := SL.of hH (sub_cons (sub_cons (sub_cons (sub_cons (sub_cons (sub_cons (sub_nil _) 1503 rfl) 1502 rfl) 1501 rfl) 1500 rfl) 1499 rfl) 901 rfl); refine ⟨hS, ?_⟩
       refine r_do 22 rfl (by kernel_rfl) rfl rfl ?_
       refine w_append 40 64 (xs := ([((gst xs (k : Int)).2.1.length : Int)])) (ys := (((gst xs (k : Int)).2.1) ++ (restS (gst xs (k : Int))))) hF hH rfl Tryd.underlying28 ty5 rfl rfl rfl rfl ((hH.rd 64 rfl)) (by intro k_ hk_; exact .inr hk_) (hF.tmp 56 rfl) (hF.tmp 64 rfl) (by have := key_len hcr; have := restS_len hcr (hbs _ hmem); simp only [List.length_cons, List.length_nil, List.length_append]; omega) (by have := key_len hcr; have := restS_len hcr (hbs _ hmem); simp only [List.length_cons, List.length_nil, List.length_append, maxLen]; omega) (fun _ => False) (fun w' v' h => row_flat h _) (fun k_ hk_ => hk_.elim) ?_
       clear hF hH; intro a w v65 hF hH
       clear hS; have hS : SL _ _ := SL.of hH (sub_cons (sub_cons (sub_cons (sub_cons (sub_cons (sub_cons (sub_nil _) 1503 rfl) 1502 rfl) 1501 rfl) 1500 rfl) 1499 rfl) 901 rfl); refine ⟨hS, ?_⟩
       obtain ⟨A65, c65, rfl⟩ := (hH.row 40 rfl).form
       have hH := hH.freeze 40 rfl (fun kb => (Value.slice A65 (([((gst xs (k : Int)).2.1.length : Int)]) ++ (((gst xs (k : Int)).2.1) ++ (restS (gst xs (k : Int))))).length c65).ownBlock = some kb) (fun kb => ⟨fun h => .inr h, fun h => h.resolve_left id⟩)
       refine r_take 23 hF rfl rfl rfl (by kernel_rfl) (by kernel_rfl) (by kernel_rfl) (fun _ _ _ h => h) rfl hS (fun w hS => x_buildS (cells := #[.int .i64 (gst xs (k : Int)).1, .slice A65 (([((gst xs (k : Int)).2.1.length : Int)]) ++ (((gst xs (k : Int)).2.1) ++ (restS (gst xs (k : Int))))).length c65]) (places := #[(0, 1), (1, 1)]) Tryd.underlying99 ty99 (by kernel_rfl) (by simp only [List.map_toArray, List.map_cons, List.map_nil, hF.tmp 48 rfl, hF.tmp 65 rfl] <;> rfl) rfl) rfl ?_; clear hF; intro a hF
       refine r_do 24 rfl (by kernel_rfl) rfl rfl ?_
       refine w_lit1 67 FE (((gst xs (k : Int)).1, (([((gst xs (k : Int)).2.1.length : Int)]) ++ (((gst xs (k : Int)).2.1) ++ (restS (gst xs (k : Int)))))) : Fld) #[.int .i64 ((gst xs (k : Int)).1), .slice A65 (([((gst xs (k : Int)).2.1.length : Int)]) ++ (((gst xs (k : Int)).2.1) ++ (restS (gst xs (k : Int))))).length c65] (fun kb => (Value.slice A65 (([((gst xs (k : Int)).2.1.length : Int)]) ++ (((gst xs (k : Int)).2.1) ++ (restS (gst xs (k : Int))))).length c65).ownBlock = some kb) hF hH rfl Tryd.underlying100 ty99 (by simp only [List.map_toArray, List.map_cons, List.map_nil, hF.tmp 66 rfl] <;> rfl) (by decide) (by kernel_rfl) (fld_mk (f := (((gst xs (k : Int)).1, (([((gst xs (k : Int)).2.1.length : Int)]) ++ (((gst xs (k : Int)).2.1) ++ (restS (gst xs (k : Int)))))) : Fld)) ((hH.rd 40 rfl))) (fun kb hk => ⟨40, _, rfl, hk⟩) ?_
       clear hF hH; intro a w b67 hF hb67_ hH
       clear hS; have hS : SL _ _ := SL.of hH (sub_cons (sub_cons (sub_cons (sub_cons (sub_cons (sub_cons (sub_nil _) 1503 rfl) 1502 rfl) 1501 rfl) 1500 rfl) 1499 rfl) 901 rfl); refine ⟨hS, ?_⟩
       refine r_do 25 rfl (by kernel_rfl) rfl rfl ?_
       refine w_append 4 67 (xs := ((xs.take k).map fldS)) (ys := ([(((gst xs (k : Int)).1, (([((gst xs (k : Int)).2.1.length : Int)]) ++ (((gst xs (k : Int)).2.1) ++ (restS (gst xs (k : Int)))))) : Fld)])) hF hH rfl Tryd.underlying100 ty99 rfl rfl rfl rfl ((hH.rd 67 rfl)) (by intro k_ hk_; exact .inr hk_) (hF.tmp 43 rfl) (hF.tmp 67 rfl) (by simp only [List.length_append, List.length_nil, List.length_cons, List.length_map, List.length_take] at *; omega) (by simp only [List.length_append, List.length_nil, List.length_cons, List.length_map, List.length_take, maxLen] at *; omega) (fun kb => okv kb ∨ (fun kb => (fun kb => (Value.slice A65 (([((gst xs (k : Int)).2.1.length : Int)]) ++ (((gst xs (k : Int)).2.1) ++ (restS (gst xs (k : Int))))).length c65).ownBlock = some kb) kb ∨ kb = b67) kb) (fun w' v' h => h) (by rintro k_ (hk_ | hk_); exact .inl hk_; exact .inr hk_) ?_
       clear hF hH; intro a w v68 hF hH
       clear hS; have hS : SL _ _ := SL.of hH (sub_cons (sub_cons (sub_cons (sub_cons (sub_cons (sub_cons (sub_nil _) 1503 rfl) 1502 rfl) 1501 rfl) 1500 rfl) 1499 rfl) 901 rfl); refine ⟨hS, ?_⟩
       refine r_take 26 hF rfl rfl rfl (by kernel_rfl) (by kernel_rfl) (by kernel_rfl) (fun _ _ _ h => h) rfl hS (fun w hS => x_assign (hF.tmp 68 rfl)) rfl ?_; clear hF; intro a hF
       refine r_end (by kernel_rfl) ?_; clear hS
       refine hK10 _ _ ?_
       refine wp_region_lit ?_
       refine l_at hF rfl rfl rfl (x_move (hF.tmp 5 rfl)) ?_; clear hF; intro a hF
       refine l_at hF rfl rfl rfl (x_add (hF.tmp 17 rfl) rfl (w64 (by omega) (by omega))) ?_; clear hF; intro a hF
       refine l_at hF rfl rfl rfl (x_assign (hF.tmp 18 rfl)) ?_; clear hF; intro a hF
       refine wpList_nil ?_
       have hHs : Hp (fun _ => False) w0 w [(901, .rd_ StE A xs c (fun k => k < w0.heap.size)), (4, .row FE 99 v68 (((xs.take k).map fldS) ++ [(((gst xs (k : Int)).1, ([(((gst xs (k : Int)).2.1.length : Int))] ++ ((gst xs (k : Int)).2.1 ++ restS (gst xs (k : Int))))) : Fld)]) (fun kb => okv kb ∨ (fun kb => (fun kb => (Value.slice A65 (([((gst xs (k : Int)).2.1.length : Int)]) ++ (((gst xs (k : Int)).2.1) ++ (restS (gst xs (k : Int))))).length c65).ownBlock = some kb) kb ∨ kb = b67) kb))] := hH.sub _ (sub_cons (sub_cons (sub_nil _) 4 rfl) 901 rfl)
       rw [show ((xs.take k).map fldS) ++ [(((gst xs (k : Int)).1, ([(((gst xs (k : Int)).2.1.length : Int))] ++ ((gst xs (k : Int)).2.1 ++ restS (gst xs (k : Int))))) : Fld)] = (xs.take (k + 1)).map fldS from fld_stepL hc16] at hHs
       exact ⟨_, by omega, ⟨k + 1, v68, (fun kb => okv kb ∨ (fun kb => (fun kb => (Value.slice A65 (([((gst xs (k : Int)).2.1.length : Int)]) ++ (((gst xs (k : Int)).2.1) ++ (restS (gst xs (k : Int))))).length c65).ownBlock = some kb) kb ∨ kb = b67) kb), rfl, by omega, right_step hc16 hq0_1 hcr, (((hF.bare.add hF 5 rfl).add hF 4 rfl).add hF 0 rfl), hHs⟩⟩
   ·have hk16_8 := hc16; try simp only [Bool.or_eq_true, Bool.and_eq_true, Bool.or_eq_false_iff, Bool.and_eq_false_iff, Bool.not_eq_true', Bool.not_eq_false', decide_eq_true_eq, decide_eq_false_iff_not, Bool.not_true, Bool.not_false] at hc16
    refine wp_exit ?_
    refine hK6 _ _ ?_
    refine wp_seq_k fun khK18 hK18 => ?_
    refine wp_region_lit ?_
    obtain rfl : k = xs.length := by omega
    rw [List.take_length] at hq0_1 hH
    obtain ⟨Av, cv, rfl⟩ := (hH.row 4 rfl).form
    refine l_at hF rfl rfl rfl (x_move (hF.tmp 4 rfl)) ?_; clear hF; intro a hF
    refine wpList_plain rfl fun K hK => ?_
    refine w_call hF (x_enter Tryd.func129 (by kernel_rfl) rfl (by simp only [List.map_toArray, List.map_cons, List.map_nil, hF.tmp 70 rfl] <;> rfl)) (refEnc_at (xs := xs.map fldS) (Row.rd (ok' := fun k_ => okv k_ ∨ (.slice Av ((xs.map fldS)).length cv : Value).ownBlock = some k_) (hH.row 4 rfl) (fun _ hk_ _ => .inl hk_) (fun _ hk_ => .inr hk_)) (encR_of hc12 hq0_1 hbs)) rfl rfl ?_
    rintro _ w ⟨vr71, er71, rfl, hm_, hr_⟩; refine ⟨_, rfl, ?_⟩; clear hF; intro a hF; have hH := Hp.rowOut hH 71 hm_ hr_; obtain ⟨Ar71, cr71, rfl⟩ := (hH.row 71 rfl).form
    refine hK _ _ ?_; clear hK K
    refine l_at hF rfl rfl rfl (x_move (hF.tmp 71 rfl)) ?_; clear hF; intro a hF
    refine l_at hF rfl rfl rfl (x_extract (hF.tmp 69 rfl) rfl) ?_; clear hF; intro a hF
    refine l_at hF rfl rfl rfl (x_extract (hF.tmp 69 rfl) rfl) ?_; clear hF; intro a hF
    refine l_at hF rfl rfl rfl (x_assign (hF.tmp 72 rfl)) ?_; clear hF; intro a hF
    refine l_at hF rfl rfl rfl (x_assign (hF.tmp 73 rfl)) ?_; clear hF; intro a hF
    refine wpList_nil ?_
    refine hK18 _ _ ?_
    refine wp_seq_k fun khK19 hK19 => ?_
    refine wp_region_lit ?_
    refine l_at hF rfl rfl rfl (x_move (hF.tmp 8 rfl)) ?_; clear hF; intro a hF
    refine l_at hF rfl rfl rfl (x_assign (hF.tmp 74 rfl)) ?_; clear hF; intro a hF
    refine l_at hF rfl rfl rfl (x_assign rfl) ?_; clear hF; intro a hF
    refine wpList_nil ?_
    refine hK19 _ _ ?_
    refine wp_ret ?_
    try simp only [Exit.then, Exit.inBlock]
    have hz := enc_good hc12 hq0_1
    exact fin_ret hF (res2 hF rfl rfl rfl) ⟨_, by rw [hz] <;> rfl, hH.mods, Hp.out hH 71 rfl⟩
set_option maxRecDepth 100000 in
set_option maxHeartbeats 1000000 in
theorem r10right_calls (w0 : World) {t : TimerD} {okt0 : Nat → Prop} {At0 : Option Addr} {ct0 : Nat} (hrt0 : Rd StE w0 okt0 At0 t.steps ct0) (hb : TimerB t) : Calls Tryd.prog 118 #[.agg #[.string (strOfNums t.name), .int .i64 t.ver, .int .u64 t.tick, .int .u64 t.every, .slice At0 t.steps.length ct0]] w0 fun e w' => e = .returned (.bool (rightT t)) ∧ Mods (fun _ => False) w0 w' := by
 refine calls_of_wp Tryd.func118 rfl ?_
 have hF := Fr.enter #[.agg #[.string (strOfNums t.name), .int .i64 t.ver, .int .u64 t.tick, .int .u64 t.every, .slice At0 t.steps.length ct0]] 40 (slotsOf [.agg #[.string (strOfNums t.name), .int .i64 t.ver, .int .u64 t.tick, .int .u64 t.every, .slice At0 t.steps.length ct0]] 0) (Nat.le_of_ble_eq_true rfl) (fun i v h => by have h2 := (get_slotsOf _ 0 i v h).2; simpa only [List.getElem?_toArray, Nat.sub_zero] using h2)
 have hH := Hp.nil (fun _ => False) w0
 rw [Tryd.ntmps118]
 revert hF; generalize (⟨(#[.agg #[.string (strOfNums t.name), .int .i64 t.ver, .int .u64 t.tick, .int .u64 t.every, .slice At0 t.steps.length ct0]] : Array Value) ++ Array.replicate (40 - (#[.agg #[.string (strOfNums t.name), .int .i64 t.ver, .int .u64 t.tick, .int .u64 t.every, .slice At0 t.steps.length ct0]] : Array Value).size) undef, []⟩ : Act) = a; intro hF
 have hH := hH.arg 900 hrt0.all (fun _ h => ⟨h, fun h => h⟩)
 have hlet0 := hrt0.le; unfold maxLen at hlet0
 refine wp_seq_k fun khK1 hK1 => ?_
 refine wp_region_lit ?_
 refine wpList_plain rfl fun K hK => ?_
 refine w_box 1 hF hH rfl (hF.tmp 0 rfl) ?_
 clear hF hH; intro a w b1 hF hH
 refine hK _ _ ?_; clear hK K
 refine l_at hF rfl rfl rfl (x_assign rfl) ?_; clear hF; intro a hF
 refine wpList_nil ?_
 refine hK1 _ _ ?_
 refine wp_seq_k fun khK2 hK2 => ?_
 refine wp_region_lit ?_
 refine l_at hF rfl rfl rfl (x_faddr Tryd.underlying39 rfl ty9 (by decide) (hF.tmp 1 rfl) rfl) ?_; clear hF; intro a hF
 refine l_at hF rfl rfl rfl (x_load1 ty9 (hF.tmp 6 rfl) (blk_cell (hH.at 1 rfl) 0 rfl)) ?_; clear hF; intro a hF
 refine wpList_plain rfl fun K hK => ?_
 refine w_call hF (x_enter Tryd.func115 (by kernel_rfl) rfl (by simp only [List.map_toArray, List.map_cons, List.map_nil, hF.tmp 7 rfl] <;> rfl)) (rname_calls _ t.name) rfl rfl ?_
 rintro _ w ⟨rfl, hm_⟩; refine ⟨_, rfl, ?_⟩; clear hF; intro a hF; have hH := hH.same hm_
 refine hK _ _ ?_; clear hK K
 refine l_at hF rfl rfl rfl (x_assign (hF.tmp 8 rfl)) ?_; clear hF; intro a hF
 refine wpList_nil ?_
 refine hK2 _ _ ?_
 refine wp_seq_k fun khK3 hK3 => ?_
 refine wp_region_lit ?_
 refine l_at hF rfl rfl rfl (x_faddr Tryd.underlying39 rfl ty37 (by decide) (hF.tmp 1 rfl) rfl) ?_; clear hF; intro a hF
 refine l_at hF rfl rfl rfl (x_load1 ty37 (hF.tmp 10 rfl) (blk_cell (hH.at 1 rfl) 4 rfl)) ?_; clear hF; intro a hF
 refine wpList_plain rfl fun K hK => ?_
 refine w_call hF (x_enter Tryd.func124 (by kernel_rfl) rfl (by simp only [List.map_toArray, List.map_cons, List.map_nil, hF.tmp 11 rfl] <;> rfl)) (raenc_calls (xs := t.steps) _ ((hH.rd 900 rfl)) hb.steps) rfl rfl ?_
 rintro _ w ⟨vr13, rfl, hm_, hr_⟩; refine ⟨_, rfl, ?_⟩; clear hF; intro a hF; have hH := Hp.rowOut hH 13 hm_ hr_; obtain ⟨Ar13, cr13, rfl⟩ := (hH.row 13 rfl).form
 refine hK _ _ ?_; clear hK K
 refine l_at hF rfl rfl rfl (x_move (hF.tmp 12 rfl)) ?_; clear hF; intro a hF
 refine l_at hF rfl rfl rfl (x_extract (hF.tmp 9 rfl) rfl) ?_; clear hF; intro a hF
 refine l_at hF rfl rfl rfl (x_extract (hF.tmp 9 rfl) rfl) ?_; clear hF; intro a hF
 refine l_at hF rfl rfl rfl (x_assign (hF.tmp 13 rfl)) ?_; clear hF; intro a hF
 refine l_at hF rfl rfl rfl (x_assign (hF.tmp 14 rfl)) ?_; clear hF; intro a hF
 refine wpList_nil ?_
 refine hK3 _ _ ?_
 refine wp_seq_k fun khK4 hK4 => ?_
 refine wp_region_lit ?_
 refine l_at hF rfl rfl rfl (x_move (hF.tmp 3 rfl)) ?_; clear hF; intro a hF
 refine l_at hF rfl rfl rfl (x_move (hF.tmp 15 rfl)) ?_; clear hF; intro a hF
 refine split_bool hF 16 rfl (fun hb16 => ?_) (fun hb16 => ?_)
 ·have hc16 := hb16; try simp only [Bool.or_eq_true, Bool.and_eq_true, Bool.or_eq_false_iff, Bool.and_eq_false_iff, Bool.not_eq_true', Bool.not_eq_false', decide_eq_true_eq, decide_eq_false_iff_not, Bool.not_true, Bool.not_false] at hc16
  refine l_atg hF ((wanted_of hF rfl rfl rfl rfl).trans (by rw [hb16]; rfl)) rfl rfl (x_faddr Tryd.underlying39 rfl ty3 (by decide) (hF.tmp 1 rfl) rfl) ?_; clear hF; intro a hF
  refine l_atg hF ((wanted_of hF rfl rfl rfl rfl).trans (by rw [hb16]; rfl)) rfl rfl (x_load1 ty3 (hF.tmp 17 rfl) (blk_cell (hH.at 1 rfl) 1 rfl)) ?_; clear hF; intro a hF
  refine l_atg hF ((wanted_of hF rfl rfl rfl rfl).trans (by rw [hb16]; rfl)) rfl rfl (x_geq (hF.tmp 18 rfl) rfl) ?_; clear hF; intro a hF
  refine l_at hF rfl rfl rfl (x_pickT (hF.tmp 16 rfl) hb16 (hF.tmp 19 rfl)) ?_; clear hF; intro a hF
  refine l_at hF rfl rfl rfl (x_move (hF.tmp 20 rfl)) ?_; clear hF; intro a hF
  refine split_bool hF 21 rfl (fun hb21 => ?_) (fun hb21 => ?_)
  ·have hc21 := hb21; try simp only [Bool.or_eq_true, Bool.and_eq_true, Bool.or_eq_false_iff, Bool.and_eq_false_iff, Bool.not_eq_true', Bool.not_eq_false', decide_eq_true_eq, decide_eq_false_iff_not, Bool.not_true, Bool.not_false] at hc21
   refine l_atg hF ((wanted_of hF rfl rfl rfl rfl).trans (by rw [hb21]; rfl)) rfl rfl (x_faddr Tryd.underlying39 rfl ty3 (by decide) (hF.tmp 1 rfl) rfl) ?_; clear hF; intro a hF
   refine l_atg hF ((wanted_of hF rfl rfl rfl rfl).trans (by rw [hb21]; rfl)) rfl rfl (x_load1 ty3 (hF.tmp 22 rfl) (blk_cell (hH.at 1 rfl) 1 rfl)) ?_; clear hF; intro a hF
   refine l_atg hF ((wanted_of hF rfl rfl rfl rfl).trans (by rw [hb21]; rfl)) rfl rfl (x_leq (hF.tmp 23 rfl) rfl) ?_; clear hF; intro a hF
   refine l_at hF rfl rfl rfl (x_pickT (hF.tmp 21 rfl) hb21 (hF.tmp 24 rfl)) ?_; clear hF; intro a hF
   refine l_at hF rfl rfl rfl (x_move (hF.tmp 25 rfl)) ?_; clear hF; intro a hF
   refine split_bool hF 26 rfl (fun hb26 => ?_) (fun hb26 => ?_)
   ·have hc26 := hb26; try simp only [Bool.or_eq_true, Bool.and_eq_true, Bool.or_eq_false_iff, Bool.and_eq_false_iff, Bool.not_eq_true', Bool.not_eq_false', decide_eq_true_eq, decide_eq_false_iff_not, Bool.not_true, Bool.not_false] at hc26
    refine l_atg hF ((wanted_of hF rfl rfl rfl rfl).trans (by rw [hb26]; rfl)) rfl rfl (x_faddr Tryd.underlying39 rfl ty34 (by decide) (hF.tmp 1 rfl) rfl) ?_; clear hF; intro a hF
    refine l_atg hF ((wanted_of hF rfl rfl rfl rfl).trans (by rw [hb26]; rfl)) rfl rfl (x_load1 ty34 (hF.tmp 27 rfl) (blk_cell (hH.at 1 rfl) 2 rfl)) ?_; clear hF; intro a hF
    refine l_atg hF ((wanted_of hF rfl rfl rfl rfl).trans (by rw [hb26]; rfl)) rfl rfl (x_leq (hF.tmp 28 rfl) rfl) ?_; clear hF; intro a hF
    refine l_at hF rfl rfl rfl (x_pickT (hF.tmp 26 rfl) hb26 (hF.tmp 29 rfl)) ?_; clear hF; intro a hF
    refine l_at hF rfl rfl rfl (x_move (hF.tmp 30 rfl)) ?_; clear hF; intro a hF
    refine split_bool hF 31 rfl (fun hb31 => ?_) (fun hb31 => ?_)
    ·have hc31 := hb31; try simp only [Bool.or_eq_true, Bool.and_eq_true, Bool.or_eq_false_iff, Bool.and_eq_false_iff, Bool.not_eq_true', Bool.not_eq_false', decide_eq_true_eq, decide_eq_false_iff_not, Bool.not_true, Bool.not_false] at hc31
     refine l_atg hF ((wanted_of hF rfl rfl rfl rfl).trans (by rw [hb31]; rfl)) rfl rfl (x_faddr Tryd.underlying39 rfl ty34 (by decide) (hF.tmp 1 rfl) rfl) ?_; clear hF; intro a hF
     refine l_atg hF ((wanted_of hF rfl rfl rfl rfl).trans (by rw [hb31]; rfl)) rfl rfl (x_load1 ty34 (hF.tmp 32 rfl) (blk_cell (hH.at 1 rfl) 3 rfl)) ?_; clear hF; intro a hF
     refine l_atg hF ((wanted_of hF rfl rfl rfl rfl).trans (by rw [hb31]; rfl)) rfl rfl (x_leq (hF.tmp 33 rfl) rfl) ?_; clear hF; intro a hF
     refine l_at hF rfl rfl rfl (x_pickT (hF.tmp 31 rfl) hb31 (hF.tmp 34 rfl)) ?_; clear hF; intro a hF
     refine l_at hF rfl rfl rfl (x_move (hF.tmp 35 rfl)) ?_; clear hF; intro a hF
     refine split_bool hF 36 rfl (fun hb36 => ?_) (fun hb36 => ?_)
     ·have hc36 := hb36; try simp only [Bool.or_eq_true, Bool.and_eq_true, Bool.or_eq_false_iff, Bool.and_eq_false_iff, Bool.not_eq_true', Bool.not_eq_false', decide_eq_true_eq, decide_eq_false_iff_not, Bool.not_true, Bool.not_false] at hc36
      refine l_atg hF ((wanted_of hF rfl rfl rfl rfl).trans (by rw [hb36]; rfl)) rfl rfl (x_move (hF.tmp 5 rfl)) ?_; clear hF; intro a hF
      refine l_atg hF ((wanted_of hF rfl rfl rfl rfl).trans (by rw [hb36]; rfl)) rfl rfl (x_eql (hF.tmp 37 rfl) rfl) ?_; clear hF; intro a hF
      refine l_at hF rfl rfl rfl (x_pickT (hF.tmp 36 rfl) hb36 (hF.tmp 38 rfl)) ?_; clear hF; intro a hF
      refine l_at hF rfl rfl rfl (x_assign (hF.tmp 39 rfl)) ?_; clear hF; intro a hF
      refine wpList_nil ?_
      refine hK4 _ _ ?_
      refine wp_ret ?_
      try simp only [Exit.then, Exit.inBlock]
      have hv : (decide ((encE t.steps) = 0)) = rightT t := by rw [rightT_ref]; first | (simp [hc16, hc21, hc26, hc31, hc36]; done) | (simp [hc16, hc21, hc26, hc31, hc36]; omega)
      exact fin_ret hF (res1 (v := .bool (decide ((encE t.steps) = 0))) hF rfl rfl) ⟨by rw [hv], hH.mods⟩
     ·have hc36 := hb36; try simp only [Bool.or_eq_true, Bool.and_eq_true, Bool.or_eq_false_iff, Bool.and_eq_false_iff, Bool.not_eq_true', Bool.not_eq_false', decide_eq_true_eq, decide_eq_false_iff_not, Bool.not_true, Bool.not_false] at hc36
      refine l_offg hF ((wanted_of hF rfl rfl rfl rfl).trans (by rw [hb36]; rfl)) rfl rfl ?_; clear hF; intro a hF
      refine l_offg hF ((wanted_of hF rfl rfl rfl rfl).trans (by rw [hb36]; rfl)) rfl rfl ?_; clear hF; intro a hF
      refine l_at hF rfl rfl rfl (x_pickF (hF.tmp 36 rfl) hb36 rfl) ?_; clear hF; intro a hF
      refine l_at hF rfl rfl rfl (x_assign (hF.tmp 39 rfl)) ?_; clear hF; intro a hF
      refine wpList_nil ?_
      refine hK4 _ _ ?_
      refine wp_ret ?_
      try simp only [Exit.then, Exit.inBlock]
      have hv : false = rightT t := by rw [rightT_ref]; first | (simp [hc16, hc21, hc26, hc31, hc36]; done) | (simp [hc16, hc21, hc26, hc31, hc36]; omega)
      exact fin_ret hF (res1 (v := .bool false) hF rfl rfl) ⟨by rw [hv], hH.mods⟩
    ·have hc31 := hb31; try simp only [Bool.or_eq_true, Bool.and_eq_true, Bool.or_eq_false_iff, Bool.and_eq_false_iff, Bool.not_eq_true', Bool.not_eq_false', decide_eq_true_eq, decide_eq_false_iff_not, Bool.not_true, Bool.not_false] at hc31
     refine l_offg hF ((wanted_of hF rfl rfl rfl rfl).trans (by rw [hb31]; rfl)) rfl rfl ?_; clear hF; intro a hF
     refine l_offg hF ((wanted_of hF rfl rfl rfl rfl).trans (by rw [hb31]; rfl)) rfl rfl ?_; clear hF; intro a hF
     refine l_offg hF ((wanted_of hF rfl rfl rfl rfl).trans (by rw [hb31]; rfl)) rfl rfl ?_; clear hF; intro a hF
     refine l_at hF rfl rfl rfl (x_pickF (hF.tmp 31 rfl) hb31 rfl) ?_; clear hF; intro a hF
     refine l_at hF rfl rfl rfl (x_move (hF.tmp 35 rfl)) ?_; clear hF; intro a hF
     refine l_offg hF ((wanted_of hF rfl rfl rfl rfl).trans rfl) rfl rfl ?_; clear hF; intro a hF
     refine l_offg hF ((wanted_of hF rfl rfl rfl rfl).trans rfl) rfl rfl ?_; clear hF; intro a hF
     refine l_at hF rfl rfl rfl (x_pickF (hF.tmp 36 rfl) rfl rfl) ?_; clear hF; intro a hF
     refine l_at hF rfl rfl rfl (x_assign (hF.tmp 39 rfl)) ?_; clear hF; intro a hF
     refine wpList_nil ?_
     refine hK4 _ _ ?_
     refine wp_ret ?_
     try simp only [Exit.then, Exit.inBlock]
     have hv : false = rightT t := by rw [rightT_ref]; first | (simp [hc16, hc21, hc26, hc31]; done) | (simp [hc16, hc21, hc26, hc31]; omega)
     exact fin_ret hF (res1 (v := .bool false) hF rfl rfl) ⟨by rw [hv], hH.mods⟩
   ·have hc26 := hb26; try simp only [Bool.or_eq_true, Bool.and_eq_true, Bool.or_eq_false_iff, Bool.and_eq_false_iff, Bool.not_eq_true', Bool.not_eq_false', decide_eq_true_eq, decide_eq_false_iff_not, Bool.not_true, Bool.not_false] at hc26
    refine l_offg hF ((wanted_of hF rfl rfl rfl rfl).trans (by rw [hb26]; rfl)) rfl rfl ?_; clear hF; intro a hF
    refine l_offg hF ((wanted_of hF rfl rfl rfl rfl).trans (by rw [hb26]; rfl)) rfl rfl ?_; clear hF; intro a hF
    refine l_offg hF ((wanted_of hF rfl rfl rfl rfl).trans (by rw [hb26]; rfl)) rfl rfl ?_; clear hF; intro a hF
    refine l_at hF rfl rfl rfl (x_pickF (hF.tmp 26 rfl) hb26 rfl) ?_; clear hF; intro a hF
    refine l_at hF rfl rfl rfl (x_move (hF.tmp 30 rfl)) ?_; clear hF; intro a hF
    refine l_offg hF ((wanted_of hF rfl rfl rfl rfl).trans rfl) rfl rfl ?_; clear hF; intro a hF
    refine l_offg hF ((wanted_of hF rfl rfl rfl rfl).trans rfl) rfl rfl ?_; clear hF; intro a hF
    refine l_offg hF ((wanted_of hF rfl rfl rfl rfl).trans rfl) rfl rfl ?_; clear hF; intro a hF
    refine l_at hF rfl rfl rfl (x_pickF (hF.tmp 31 rfl) rfl rfl) ?_; clear hF; intro a hF
    refine l_at hF rfl rfl rfl (x_move (hF.tmp 35 rfl)) ?_; clear hF; intro a hF
    refine l_offg hF ((wanted_of hF rfl rfl rfl rfl).trans rfl) rfl rfl ?_; clear hF; intro a hF
    refine l_offg hF ((wanted_of hF rfl rfl rfl rfl).trans rfl) rfl rfl ?_; clear hF; intro a hF
    refine l_at hF rfl rfl rfl (x_pickF (hF.tmp 36 rfl) rfl rfl) ?_; clear hF; intro a hF
    refine l_at hF rfl rfl rfl (x_assign (hF.tmp 39 rfl)) ?_; clear hF; intro a hF
    refine wpList_nil ?_
    refine hK4 _ _ ?_
    refine wp_ret ?_
    try simp only [Exit.then, Exit.inBlock]
    have hv : false = rightT t := by rw [rightT_ref]; first | (simp [hc16, hc21, hc26]; done) | (simp [hc16, hc21, hc26]; omega)
    exact fin_ret hF (res1 (v := .bool false) hF rfl rfl) ⟨by rw [hv], hH.mods⟩
  ·have hc21 := hb21; try simp only [Bool.or_eq_true, Bool.and_eq_true, Bool.or_eq_false_iff, Bool.and_eq_false_iff, Bool.not_eq_true', Bool.not_eq_false', decide_eq_true_eq, decide_eq_false_iff_not, Bool.not_true, Bool.not_false] at hc21
   refine l_offg hF ((wanted_of hF rfl rfl rfl rfl).trans (by rw [hb21]; rfl)) rfl rfl ?_; clear hF; intro a hF
   refine l_offg hF ((wanted_of hF rfl rfl rfl rfl).trans (by rw [hb21]; rfl)) rfl rfl ?_; clear hF; intro a hF
   refine l_offg hF ((wanted_of hF rfl rfl rfl rfl).trans (by rw [hb21]; rfl)) rfl rfl ?_; clear hF; intro a hF
   refine l_at hF rfl rfl rfl (x_pickF (hF.tmp 21 rfl) hb21 rfl) ?_; clear hF; intro a hF
   refine l_at hF rfl rfl rfl (x_move (hF.tmp 25 rfl)) ?_; clear hF; intro a hF
   refine l_offg hF ((wanted_of hF rfl rfl rfl rfl).trans rfl) rfl rfl ?_; clear hF; intro a hF
   refine l_offg hF ((wanted_of hF rfl rfl rfl rfl).trans rfl) rfl rfl ?_; clear hF; intro a hF
   refine l_offg hF ((wanted_of hF rfl rfl rfl rfl).trans rfl) rfl rfl ?_; clear hF; intro a hF
   refine l_at hF rfl rfl rfl (x_pickF (hF.tmp 26 rfl) rfl rfl) ?_; clear hF; intro a hF
   refine l_at hF rfl rfl rfl (x_move (hF.tmp 30 rfl)) ?_; clear hF; intro a hF
   refine l_offg hF ((wanted_of hF rfl rfl rfl rfl).trans rfl) rfl rfl ?_; clear hF; intro a hF
   refine l_offg hF ((wanted_of hF rfl rfl rfl rfl).trans rfl) rfl rfl ?_; clear hF; intro a hF
   refine l_offg hF ((wanted_of hF rfl rfl rfl rfl).trans rfl) rfl rfl ?_; clear hF; intro a hF
   refine l_at hF rfl rfl rfl (x_pickF (hF.tmp 31 rfl) rfl rfl) ?_; clear hF; intro a hF
   refine l_at hF rfl rfl rfl (x_move (hF.tmp 35 rfl)) ?_; clear hF; intro a hF
   refine l_offg hF ((wanted_of hF rfl rfl rfl rfl).trans rfl) rfl rfl ?_; clear hF; intro a hF
   refine l_offg hF ((wanted_of hF rfl rfl rfl rfl).trans rfl) rfl rfl ?_; clear hF; intro a hF
   refine l_at hF rfl rfl rfl (x_pickF (hF.tmp 36 rfl) rfl rfl) ?_; clear hF; intro a hF
   refine l_at hF rfl rfl rfl (x_assign (hF.tmp 39 rfl)) ?_; clear hF; intro a hF
   refine wpList_nil ?_
   refine hK4 _ _ ?_
   refine wp_ret ?_
   try simp only [Exit.then, Exit.inBlock]
   have hv : false = rightT t := by rw [rightT_ref]; first | (simp [hc16, hc21]; done) | (simp [hc16, hc21]; omega)
   exact fin_ret hF (res1 (v := .bool false) hF rfl rfl) ⟨by rw [hv], hH.mods⟩
 ·have hc16 := hb16; try simp only [Bool.or_eq_true, Bool.and_eq_true, Bool.or_eq_false_iff, Bool.and_eq_false_iff, Bool.not_eq_true', Bool.not_eq_false', decide_eq_true_eq, decide_eq_false_iff_not, Bool.not_true, Bool.not_false] at hc16
  refine l_offg hF ((wanted_of hF rfl rfl rfl rfl).trans (by rw [hb16]; rfl)) rfl rfl ?_; clear hF; intro a hF
  refine l_offg hF ((wanted_of hF rfl rfl rfl rfl).trans (by rw [hb16]; rfl)) rfl rfl ?_; clear hF; intro a hF
  refine l_offg hF ((wanted_of hF rfl rfl rfl rfl).trans (by rw [hb16]; rfl)) rfl rfl ?_; clear hF; intro a hF
  refine l_at hF rfl rfl rfl (x_pickF (hF.tmp 16 rfl) hb16 rfl) ?_; clear hF; intro a hF
  refine l_at hF rfl rfl rfl (x_move (hF.tmp 20 rfl)) ?_; clear hF; intro a hF
  refine l_offg hF ((wanted_of hF rfl rfl rfl rfl).trans rfl) rfl rfl ?_; clear hF; intro a hF
  refine l_offg hF ((wanted_of hF rfl rfl rfl rfl).trans rfl) rfl rfl ?_; clear hF; intro a hF
  refine l_offg hF ((wanted_of hF rfl rfl rfl rfl).trans rfl) rfl rfl ?_; clear hF; intro a hF
  refine l_at hF rfl rfl rfl (x_pickF (hF.tmp 21 rfl) rfl rfl) ?_; clear hF; intro a hF
  refine l_at hF rfl rfl rfl (x_move (hF.tmp 25 rfl)) ?_; clear hF; intro a hF
  refine l_offg hF ((wanted_of hF rfl rfl rfl rfl).trans rfl) rfl rfl ?_; clear hF; intro a hF
  refine l_offg hF ((wanted_of hF rfl rfl rfl rfl).trans rfl) rfl rfl ?_; clear hF; intro a hF
  refine l_offg hF ((wanted_of hF rfl rfl rfl rfl).trans rfl) rfl rfl ?_; clear hF; intro a hF
  refine l_at hF rfl rfl rfl (x_pickF (hF.tmp 26 rfl) rfl rfl) ?_; clear hF; intro a hF
  refine l_at hF rfl rfl rfl (x_move (hF.tmp 30 rfl)) ?_; clear hF; intro a hF
  refine l_offg hF ((wanted_of hF rfl rfl rfl rfl).trans rfl) rfl rfl ?_; clear hF; intro a hF
  refine l_offg hF ((wanted_of hF rfl rfl rfl rfl).trans rfl) rfl rfl ?_; clear hF; intro a hF
  refine l_offg hF ((wanted_of hF rfl rfl rfl rfl).trans rfl) rfl rfl ?_; clear hF; intro a hF
  refine l_at hF rfl rfl rfl (x_pickF (hF.tmp 31 rfl) rfl rfl) ?_; clear hF; intro a hF
  refine l_at hF rfl rfl rfl (x_move (hF.tmp 35 rfl)) ?_; clear hF; intro a hF
  refine l_offg hF ((wanted_of hF rfl rfl rfl rfl).trans rfl) rfl rfl ?_; clear hF; intro a hF
  refine l_offg hF ((wanted_of hF rfl rfl rfl rfl).trans rfl) rfl rfl ?_; clear hF; intro a hF
  refine l_at hF rfl rfl rfl (x_pickF (hF.tmp 36 rfl) rfl rfl) ?_; clear hF; intro a hF
  refine l_at hF rfl rfl rfl (x_assign (hF.tmp 39 rfl)) ?_; clear hF; intro a hF
  refine wpList_nil ?_
  refine hK4 _ _ ?_
  refine wp_ret ?_
  try simp only [Exit.then, Exit.inBlock]
  have hv : false = rightT t := by rw [rightT_ref]; first | (simp [hc16]; done) | (simp [hc16]; omega)
  exact fin_ret hF (res1 (v := .bool false) hF rfl rfl) ⟨by rw [hv], hH.mods⟩
set_option maxRecDepth 100000 in
set_option maxHeartbeats 1000000 in
theorem r14bare_calls (w0 : World) {o : OpD} {oko0 : Nat → Prop} {Ao0 : Option Addr} {co0 : Nat} (hro0 : Rd StE w0 oko0 Ao0 o.timer.steps co0) (hb : OpB o) : Calls Tryd.prog 116 #[.agg #[.int .i64 o.kind, .string (strOfNums o.key), .int .i64 o.step.1, .string (strOfNums o.step.2.1), .string (strOfNums o.step.2.2.1), .int .i64 o.step.2.2.2, .string (strOfNums o.timer.name), .int .i64 o.timer.ver, .int .u64 o.timer.tick, .int .u64 o.timer.every, .slice Ao0 o.timer.steps.length co0]] w0 fun e w' => e = .returned (.tuple #[.bool (decide (o.step = zS)), .bool (decide (o.timer = zT))]) ∧ Mods (fun _ => False) w0 w' := by
 refine calls_of_wp Tryd.func116 rfl ?_
 have hF := Fr.enter #[.agg #[.int .i64 o.kind, .string (strOfNums o.key), .int .i64 o.step.1, .string (strOfNums o.step.2.1), .string (strOfNums o.step.2.2.1), .int .i64 o.step.2.2.2, .string (strOfNums o.timer.name), .int .i64 o.timer.ver, .int .u64 o.timer.tick, .int .u64 o.timer.every, .slice Ao0 o.timer.steps.length co0]] 14 (slotsOf [.agg #[.int .i64 o.kind, .string (strOfNums o.key), .int .i64 o.step.1, .string (strOfNums o.step.2.1), .string (strOfNums o.step.2.2.1), .int .i64 o.step.2.2.2, .string (strOfNums o.timer.name), .int .i64 o.timer.ver, .int .u64 o.timer.tick, .int .u64 o.timer.every, .slice Ao0 o.timer.steps.length co0]] 0) (Nat.le_of_ble_eq_true rfl) (fun i v h => by have h2 := (get_slotsOf _ 0 i v h).2; simpa only [List.getElem?_toArray, Nat.sub_zero] using h2)
 have hH := Hp.nil (fun _ => False) w0
 rw [Tryd.ntmps116]
 revert hF; generalize (⟨(#[.agg #[.int .i64 o.kind, .string (strOfNums o.key), .int .i64 o.step.1, .string (strOfNums o.step.2.1), .string (strOfNums o.step.2.2.1), .int .i64 o.step.2.2.2, .string (strOfNums o.timer.name), .int .i64 o.timer.ver, .int .u64 o.timer.tick, .int .u64 o.timer.every, .slice Ao0 o.timer.steps.length co0]] : Array Value) ++ Array.replicate (14 - (#[.agg #[.int .i64 o.kind, .string (strOfNums o.key), .int .i64 o.step.1, .string (strOfNums o.step.2.1), .string (strOfNums o.step.2.2.1), .int .i64 o.step.2.2.2, .string (strOfNums o.timer.name), .int .i64 o.timer.ver, .int .u64 o.timer.tick, .int .u64 o.timer.every, .slice Ao0 o.timer.steps.length co0]] : Array Value).size) undef, []⟩ : Act) = a; intro hF
 have hH := hH.arg 900 hro0.all (fun _ h => ⟨h, fun h => h⟩)
 have hleo0 := hro0.le; unfold maxLen at hleo0
 refine wp_seq_k fun khK1 hK1 => ?_
 refine wp_region_lit ?_
 refine wpList_plain rfl fun K hK => ?_
 refine w_box 1 hF hH rfl (hF.tmp 0 rfl) ?_
 clear hF hH; intro a w b1 hF hH
 refine hK _ _ ?_; clear hK K
 refine l_at hF rfl rfl rfl (x_assign rfl) ?_; clear hF; intro a hF
 refine l_at hF rfl rfl rfl (x_assign rfl) ?_; clear hF; intro a hF
 refine wpList_nil ?_
 refine hK1 _ _ ?_
 refine wp_seq_k fun khK2 hK2 => ?_
 refine wp_region_lit ?_
 refine l_at hF rfl rfl rfl (x_faddr Tryd.underlying55 rfl ty39 (by decide) (hF.tmp 1 rfl) rfl) ?_; clear hF; intro a hF
 refine l_at hF rfl rfl rfl (x_loadn (cs := #[.string (strOfNums o.timer.name), .int .i64 o.timer.ver, .int .u64 o.timer.tick, .int .u64 o.timer.every, .slice Ao0 o.timer.steps.length co0]) ty39 (hF.tmp 5 rfl) rfl (blk_sub (hH.at 1 rfl) 6 5 rfl)) ?_; clear hF; intro a hF
 refine l_at hF rfl rfl rfl (x_buildS (cells := #[.string (strOfNums []), .int .i64 0, .int .u64 0, .int .u64 0, .slice none 0 0]) (places := #[(0, 1), (1, 1), (2, 1), (3, 1), (4, 1)]) Tryd.underlying39 ty39 (by kernel_rfl) Array.map_empty rfl) ?_; clear hF; intro a hF
 refine wpList_plain rfl fun K hK => ?_
 refine w_call hF (x_enter Tryd.func88 (by kernel_rfl) rfl (by simp only [List.map_toArray, List.map_cons, List.map_nil, hF.tmp 6 rfl, hF.tmp 7 rfl] <;> rfl)) (r10same_calls (p := o.timer) (q := zT) _ ((hH.rd 900 rfl)) (Rd.nil StE _ (fun _ => False)) hb.timer zT_B) rfl rfl ?_
 rintro _ w ⟨rfl, hm_⟩; refine ⟨_, rfl, ?_⟩; clear hF; intro a hF; have hH := hH.same hm_
 refine hK _ _ ?_; clear hK K
 refine l_at hF rfl rfl rfl (x_assign (hF.tmp 8 rfl)) ?_; clear hF; intro a hF
 refine wpList_nil ?_
 refine hK2 _ _ ?_
 refine wp_seq_k fun khK3 hK3 => ?_
 refine wp_region_lit ?_
 refine l_at hF rfl rfl rfl (x_faddr Tryd.underlying55 rfl ty53 (by decide) (hF.tmp 1 rfl) rfl) ?_; clear hF; intro a hF
 refine l_at hF rfl rfl rfl (x_loadn (cs := #[.int .i64 o.step.1, .string (strOfNums o.step.2.1), .string (strOfNums o.step.2.2.1), .int .i64 o.step.2.2.2]) ty53 (hF.tmp 9 rfl) rfl (blk_sub (hH.at 1 rfl) 2 4 rfl)) ?_; clear hF; intro a hF
 refine l_at hF rfl rfl rfl (x_buildS (cells := #[.int .i64 0, .string (strOfNums []), .string (strOfNums []), .int .i64 0]) (places := #[(0, 1), (1, 1), (2, 1), (3, 1)]) Tryd.underlying53 ty53 (by kernel_rfl) Array.map_empty rfl) ?_; clear hF; intro a hF
 refine l_at hF rfl rfl rfl (st_eqs (x := o.step) (y := zS) hb.step.1 zS_B.1 hb.step.2.1 zS_B.2.1 (hF.tmp 10 rfl) (hF.tmp 11 rfl)) ?_; clear hF; intro a hF
 refine l_at hF rfl rfl rfl (x_move (hF.tmp 4 rfl)) ?_; clear hF; intro a hF
 refine l_at hF rfl rfl rfl (x_assign (hF.tmp 12 rfl)) ?_; clear hF; intro a hF
 refine l_at hF rfl rfl rfl (x_assign (hF.tmp 13 rfl)) ?_; clear hF; intro a hF
 refine wpList_nil ?_
 refine hK3 _ _ ?_
 refine wp_ret ?_
 try simp only [Exit.then, Exit.inBlock]
 exact fin_ret hF (res2 hF rfl rfl rfl) ⟨rfl, hH.mods⟩
set_option maxRecDepth 100000 in
set_option maxHeartbeats 1000000 in
theorem r14right_calls (w0 : World) {o : OpD} {oko0 : Nat → Prop} {Ao0 : Option Addr} {co0 : Nat} (hro0 : Rd StE w0 oko0 Ao0 o.timer.steps co0) (hb : OpB o) : Calls Tryd.prog 106 #[.agg #[.int .i64 o.kind, .string (strOfNums o.key), .int .i64 o.step.1, .string (strOfNums o.step.2.1), .string (strOfNums o.step.2.2.1), .int .i64 o.step.2.2.2, .string (strOfNums o.timer.name), .int .i64 o.timer.ver, .int .u64 o.timer.tick, .int .u64 o.timer.every, .slice Ao0 o.timer.steps.length co0]] w0 fun e w' => e = .returned (.bool (overO o)) ∧ Mods (fun _ => False) w0 w' := by
 refine calls_of_wp Tryd.func106 rfl ?_
 have hF := Fr.enter #[.agg #[.int .i64 o.kind, .string (strOfNums o.key), .int .i64 o.step.1, .string (strOfNums o.step.2.1), .string (strOfNums o.step.2.2.1), .int .i64 o.step.2.2.2, .string (strOfNums o.timer.name), .int .i64 o.timer.ver, .int .u64 o.timer.tick, .int .u64 o.timer.every, .slice Ao0 o.timer.steps.length co0]] 61 (slotsOf [.agg #[.int .i64 o.kind, .string (strOfNums o.key), .int .i64 o.step.1, .string (strOfNums o.step.2.1), .string (strOfNums o.step.2.2.1), .int .i64 o.step.2.2.2, .string (strOfNums o.timer.name), .int .i64 o.timer.ver, .int .u64 o.timer.tick, .int .u64 o.timer.every, .slice Ao0 o.timer.steps.length co0]] 0) (Nat.le_of_ble_eq_true rfl) (fun i v h => by have h2 := (get_slotsOf _ 0 i v h).2; simpa only [List.getElem?_toArray, Nat.sub_zero] using h2)
 have hH := Hp.nil (fun _ => False) w0
 rw [Tryd.ntmps106]
 revert hF; generalize (⟨(#[.agg #[.int .i64 o.kind, .string (strOfNums o.key), .int .i64 o.step.1, .string (strOfNums o.step.2.1), .string (strOfNums o.step.2.2.1), .int .i64 o.step.2.2.2, .string (strOfNums o.timer.name), .int .i64 o.timer.ver, .int .u64 o.timer.tick, .int .u64 o.timer.every, .slice Ao0 o.timer.steps.length co0]] : Array Value) ++ Array.replicate (61 - (#[.agg #[.int .i64 o.kind, .string (strOfNums o.key), .int .i64 o.step.1, .string (strOfNums o.step.2.1), .string (strOfNums o.step.2.2.1), .int .i64 o.step.2.2.2, .string (strOfNums o.timer.name), .int .i64 o.timer.ver, .int .u64 o.timer.tick, .int .u64 o.timer.every, .slice Ao0 o.timer.steps.length co0]] : Array Value).size) undef, []⟩ : Act) = a; intro hF
 have hH := hH.arg 900 hro0.all (fun _ h => ⟨h, fun h => h⟩)
 have hleo0 := hro0.le; unfold maxLen at hleo0
 refine wp_seq_k fun khK1 hK1 => ?_
 refine wp_region_lit ?_
 refine wpList_plain rfl fun K hK => ?_
 refine w_box 1 hF hH rfl (hF.tmp 0 rfl) ?_
 clear hF hH; intro a w b1 hF hH
 refine hK _ _ ?_; clear hK K
 refine l_at hF rfl rfl rfl (x_assign rfl) ?_; clear hF; intro a hF
 refine wpList_nil ?_
 refine hK1 _ _ ?_
 refine wp_seq_k fun khK2 hK2 => ?_
 refine wp_region_lit ?_
 refine l_at hF rfl rfl rfl (x_faddr Tryd.underlying55 rfl ty9 (by decide) (hF.tmp 1 rfl) rfl) ?_; clear hF; intro a hF
 refine l_at hF rfl rfl rfl (x_load1 ty9 (hF.tmp 7 rfl) (blk_cell (hH.at 1 rfl) 1 rfl)) ?_; clear hF; intro a hF
 refine wpList_plain rfl fun K hK => ?_
 refine w_call hF (x_enter Tryd.func115 (by kernel_rfl) rfl (by simp only [List.map_toArray, List.map_cons, List.map_nil, hF.tmp 8 rfl] <;> rfl)) (rname_calls _ o.key) rfl rfl ?_
 rintro _ w ⟨rfl, hm_⟩; refine ⟨_, rfl, ?_⟩; clear hF; intro a hF; have hH := hH.same hm_
 refine hK _ _ ?_; clear hK K
 refine l_at hF rfl rfl rfl (x_assign (hF.tmp 9 rfl)) ?_; clear hF; intro a hF
 refine wpList_nil ?_
 refine hK2 _ _ ?_
 refine wp_seq_k fun khK3 hK3 => ?_
 refine wp_region_lit ?_
 refine l_at hF rfl rfl rfl (x_loadn ty55 (hF.tmp 1 rfl) rfl (blk_whole (hH.at 1 rfl))) ?_; clear hF; intro a hF
 refine wpList_plain rfl fun K hK => ?_
 refine w_call hF (x_enter Tryd.func116 (by kernel_rfl) rfl (by simp only [List.map_toArray, List.map_cons, List.map_nil, hF.tmp 11 rfl] <;> rfl)) (r14bare_calls (o := o) _ ((hH.rd 900 rfl)) hb) rfl rfl ?_
 rintro _ w ⟨rfl, hm_⟩; refine ⟨_, rfl, ?_⟩; clear hF; intro a hF; have hH := hH.same hm_
 refine hK _ _ ?_; clear hK K
 refine l_at hF rfl rfl rfl (x_move (hF.tmp 12 rfl)) ?_; clear hF; intro a hF
 refine l_at hF rfl rfl rfl (x_extract (hF.tmp 10 rfl) rfl) ?_; clear hF; intro a hF
 refine l_at hF rfl rfl rfl (x_extract (hF.tmp 10 rfl) rfl) ?_; clear hF; intro a hF
 refine l_at hF rfl rfl rfl (x_assign (hF.tmp 13 rfl)) ?_; clear hF; intro a hF
 refine l_at hF rfl rfl rfl (x_assign (hF.tmp 14 rfl)) ?_; clear hF; intro a hF
 refine wpList_nil ?_
 refine hK3 _ _ ?_
 refine wp_seq_k fun khK4 hK4 => ?_
 refine wp_seq_k fun khK5 hK5 => ?_
 refine wp_region_lit ?_
 refine l_at hF rfl rfl rfl (x_faddr Tryd.underlying55 rfl ty50 (by decide) (hF.tmp 1 rfl) rfl) ?_; clear hF; intro a hF
 refine l_at hF rfl rfl rfl (x_load1 ty50 (hF.tmp 15 rfl) (blk_cell (hH.at 1 rfl) 0 rfl)) ?_; clear hF; intro a hF
 refine wpList_nil ?_
 refine hK5 _ _ ?_
 refine wp_block ?_
 refine wp_seq_k fun khK6 hK6 => ?_
 refine wp_seq_k fun khK7 hK7 => ?_
 refine wp_region_lit ?_
 refine l_at hF rfl rfl rfl (x_eql (hF.tmp 16 rfl) rfl) ?_; clear hF; intro a hF
 refine l_at hF rfl rfl rfl (x_assign (hF.tmp 18 rfl)) ?_; clear hF; intro a hF
 refine wpList_nil ?_
 refine hK7 _ _ ?_
 refine wp_cond_split (hF.tmp 17 rfl) (fun hc17 => ?_) (fun hc17 => ?_)
 ·have hk17_1 := hc17; try simp only [Bool.or_eq_true, Bool.and_eq_true, Bool.or_eq_false_iff, Bool.and_eq_false_iff, Bool.not_eq_true', Bool.not_eq_false', decide_eq_true_eq, decide_eq_false_iff_not, Bool.not_true, Bool.not_false] at hc17
  refine wp_skip ?_
  refine hK6 _ _ ?_
  refine wp_cond_true ((hF.tmp 17 rfl).trans (by rw [hk17_1])) ?_
  refine wp_seq_k fun khK8 hK8 => ?_
  refine wp_region_lit ?_
  refine l_at hF rfl rfl rfl (x_move (hF.tmp 3 rfl)) ?_; clear hF; intro a hF
  refine l_at hF rfl rfl rfl (x_move (hF.tmp 20 rfl)) ?_; clear hF; intro a hF
  refine split_bool hF 21 rfl (fun hb21 => ?_) (fun hb21 => ?_)
  ·have hc21 := hb21; try simp only [Bool.or_eq_true, Bool.and_eq_true, Bool.or_eq_false_iff, Bool.and_eq_false_iff, Bool.not_eq_true', Bool.not_eq_false', decide_eq_true_eq, decide_eq_false_iff_not, Bool.not_true, Bool.not_false] at hc21
   refine l_atg hF ((wanted_of hF rfl rfl rfl rfl).trans (by rw [hb21]; rfl)) rfl rfl (x_move (hF.tmp 4 rfl)) ?_; clear hF; intro a hF
   refine l_at hF rfl rfl rfl (x_pickT (hF.tmp 21 rfl) hb21 (hF.tmp 22 rfl)) ?_; clear hF; intro a hF
   refine l_at hF rfl rfl rfl (x_move (hF.tmp 23 rfl)) ?_; clear hF; intro a hF
   refine split_bool hF 24 rfl (fun hb24 => ?_) (fun hb24 => ?_)
   ·have hc24 := hb24; try simp only [Bool.or_eq_true, Bool.and_eq_true, Bool.or_eq_false_iff, Bool.and_eq_false_iff, Bool.not_eq_true', Bool.not_eq_false', decide_eq_true_eq, decide_eq_false_iff_not, Bool.not_true, Bool.not_false] at hc24
    refine l_atg hF ((wanted_of hF rfl rfl rfl rfl).trans (by rw [hb24]; rfl)) rfl rfl (x_move (hF.tmp 5 rfl)) ?_; clear hF; intro a hF
    refine l_at hF rfl rfl rfl (x_pickT (hF.tmp 24 rfl) hb24 (hF.tmp 25 rfl)) ?_; clear hF; intro a hF
    refine l_at hF rfl rfl rfl (x_assign (hF.tmp 26 rfl)) ?_; clear hF; intro a hF
    refine wpList_nil ?_
    refine hK8 _ _ ?_
    refine wp_ret ?_
    try simp only [Exit.then, Exit.inBlock]
    have hv : (decide (o.timer = zT)) = overO o := by rw [overO_ref hb]; unfold ovR; first | (simp [hc17, hc21, hc24]; done) | (simp [hc17, hc21, hc24]; omega)
    exact fin_ret hF (res1 (v := .bool (decide (o.timer = zT))) hF rfl rfl) ⟨by rw [hv], hH.mods⟩
   ·have hc24 := hb24; try simp only [Bool.or_eq_true, Bool.and_eq_true, Bool.or_eq_false_iff, Bool.and_eq_false_iff, Bool.not_eq_true', Bool.not_eq_false', decide_eq_true_eq, decide_eq_false_iff_not, Bool.not_true, Bool.not_false] at hc24
    refine l_offg hF ((wanted_of hF rfl rfl rfl rfl).trans (by rw [hb24]; rfl)) rfl rfl ?_; clear hF; intro a hF
    refine l_at hF rfl rfl rfl (x_pickF (hF.tmp 24 rfl) hb24 rfl) ?_; clear hF; intro a hF
    refine l_at hF rfl rfl rfl (x_assign (hF.tmp 26 rfl)) ?_; clear hF; intro a hF
    refine wpList_nil ?_
    refine hK8 _ _ ?_
    refine wp_ret ?_
    try simp only [Exit.then, Exit.inBlock]
    have hv : false = overO o := by rw [overO_ref hb]; unfold ovR; first | (simp [hc17, hc21, hc24]; done) | (simp [hc17, hc21, hc24]; omega)
    exact fin_ret hF (res1 (v := .bool false) hF rfl rfl) ⟨by rw [hv], hH.mods⟩
  ·have hc21 := hb21; try simp only [Bool.or_eq_true, Bool.and_eq_true, Bool.or_eq_false_iff, Bool.and_eq_false_iff, Bool.not_eq_true', Bool.not_eq_false', decide_eq_true_eq, decide_eq_false_iff_not, Bool.not_true, Bool.not_false] at hc21
   refine l_offg hF ((wanted_of hF rfl rfl rfl rfl).trans (by rw [hb21]; rfl)) rfl rfl ?_; clear hF; intro a hF
   refine l_at hF rfl rfl rfl (x_pickF (hF.tmp 21 rfl) hb21 rfl) ?_; clear hF; intro a hF
   refine l_at hF rfl rfl rfl (x_move (hF.tmp 23 rfl)) ?_; clear hF; intro a hF
   refine l_offg hF ((wanted_of hF rfl rfl rfl rfl).trans rfl) rfl rfl ?_; clear hF; intro a hF
   refine l_at hF rfl rfl rfl (x_pickF (hF.tmp 24 rfl) rfl rfl) ?_; clear hF; intro a hF
   refine l_at hF rfl rfl rfl (x_assign (hF.tmp 26 rfl)) ?_; clear hF; intro a hF
   refine wpList_nil ?_
   refine hK8 _ _ ?_
   refine wp_ret ?_
   try simp only [Exit.then, Exit.inBlock]
   have hv : false = overO o := by rw [overO_ref hb]; unfold ovR; first | (simp [hc17, hc21]; done) | (simp [hc17, hc21]; omega)
   exact fin_ret hF (res1 (v := .bool false) hF rfl rfl) ⟨by rw [hv], hH.mods⟩
 ·have hk17_2 := hc17; try simp only [Bool.or_eq_true, Bool.and_eq_true, Bool.or_eq_false_iff, Bool.and_eq_false_iff, Bool.not_eq_true', Bool.not_eq_false', decide_eq_true_eq, decide_eq_false_iff_not, Bool.not_true, Bool.not_false] at hc17
  refine wp_region_lit ?_
  refine l_at hF rfl rfl rfl (x_eql (hF.tmp 16 rfl) rfl) ?_; clear hF; intro a hF
  refine l_at hF rfl rfl rfl (x_assign (hF.tmp 19 rfl)) ?_; clear hF; intro a hF
  refine wpList_nil ?_
  refine hK6 _ _ ?_
  refine wp_cond_split (hF.tmp 17 rfl) (fun hc17 => ?_) (fun hc17 => ?_)
  ·have hk17_3 := hc17; try simp only [Bool.or_eq_true, Bool.and_eq_true, Bool.or_eq_false_iff, Bool.and_eq_false_iff, Bool.not_eq_true', Bool.not_eq_false', decide_eq_true_eq, decide_eq_false_iff_not, Bool.not_true, Bool.not_false] at hc17
   refine wp_seq_k fun khK9 hK9 => ?_
   refine wp_region_lit ?_
   refine l_at hF rfl rfl rfl (x_move (hF.tmp 3 rfl)) ?_; clear hF; intro a hF
   refine l_at hF rfl rfl rfl (x_move (hF.tmp 20 rfl)) ?_; clear hF; intro a hF
   refine split_bool hF 21 rfl (fun hb21 => ?_) (fun hb21 => ?_)
   ·have hc21 := hb21; try simp only [Bool.or_eq_true, Bool.and_eq_true, Bool.or_eq_false_iff, Bool.and_eq_false_iff, Bool.not_eq_true', Bool.not_eq_false', decide_eq_true_eq, decide_eq_false_iff_not, Bool.not_true, Bool.not_false] at hc21
    refine l_atg hF ((wanted_of hF rfl rfl rfl rfl).trans (by rw [hb21]; rfl)) rfl rfl (x_move (hF.tmp 4 rfl)) ?_; clear hF; intro a hF
    refine l_at hF rfl rfl rfl (x_pickT (hF.tmp 21 rfl) hb21 (hF.tmp 22 rfl)) ?_; clear hF; intro a hF
    refine l_at hF rfl rfl rfl (x_move (hF.tmp 23 rfl)) ?_; clear hF; intro a hF
    refine split_bool hF 24 rfl (fun hb24 => ?_) (fun hb24 => ?_)
    ·have hc24 := hb24; try simp only [Bool.or_eq_true, Bool.and_eq_true, Bool.or_eq_false_iff, Bool.and_eq_false_iff, Bool.not_eq_true', Bool.not_eq_false', decide_eq_true_eq, decide_eq_false_iff_not, Bool.not_true, Bool.not_false] at hc24
     refine l_atg hF ((wanted_of hF rfl rfl rfl rfl).trans (by rw [hb24]; rfl)) rfl rfl (x_move (hF.tmp 5 rfl)) ?_; clear hF; intro a hF
     refine l_at hF rfl rfl rfl (x_pickT (hF.tmp 24 rfl) hb24 (hF.tmp 25 rfl)) ?_; clear hF; intro a hF
     refine l_at hF rfl rfl rfl (x_assign (hF.tmp 26 rfl)) ?_; clear hF; intro a hF
     refine wpList_nil ?_
     refine hK9 _ _ ?_
     refine wp_ret ?_
     try simp only [Exit.then, Exit.inBlock]
     have hv : (decide (o.timer = zT)) = overO o := by rw [overO_ref hb]; unfold ovR; first | (simp [hc17, hc17, hc21, hc24]; done) | (simp [hc17, hc17, hc21, hc24]; omega)
     exact fin_ret hF (res1 (v := .bool (decide (o.timer = zT))) hF rfl rfl) ⟨by rw [hv], hH.mods⟩
    ·have hc24 := hb24; try simp only [Bool.or_eq_true, Bool.and_eq_true, Bool.or_eq_false_iff, Bool.and_eq_false_iff, Bool.not_eq_true', Bool.not_eq_false', decide_eq_true_eq, decide_eq_false_iff_not, Bool.not_true, Bool.not_false] at hc24
     refine l_offg hF ((wanted_of hF rfl rfl rfl rfl).trans (by rw [hb24]; rfl)) rfl rfl ?_; clear hF; intro a hF
     refine l_at hF rfl rfl rfl (x_pickF (hF.tmp 24 rfl) hb24 rfl) ?_; clear hF; intro a hF
     refine l_at hF rfl rfl rfl (x_assign (hF.tmp 26 rfl)) ?_; clear hF; intro a hF
     refine wpList_nil ?_
     refine hK9 _ _ ?_
     refine wp_ret ?_
     try simp only [Exit.then, Exit.inBlock]
     have hv : false = overO o := by rw [overO_ref hb]; unfold ovR; first | (simp [hc17, hc17, hc21, hc24]; done) | (simp [hc17, hc17, hc21, hc24]; omega)
     exact fin_ret hF (res1 (v := .bool false) hF rfl rfl) ⟨by rw [hv], hH.mods⟩
   ·have hc21 := hb21; try simp only [Bool.or_eq_true, Bool.and_eq_true, Bool.or_eq_false_iff, Bool.and_eq_false_iff, Bool.not_eq_true', Bool.not_eq_false', decide_eq_true_eq, decide_eq_false_iff_not, Bool.not_true, Bool.not_false] at hc21
    refine l_offg hF ((wanted_of hF rfl rfl rfl rfl).trans (by rw [hb21]; rfl)) rfl rfl ?_; clear hF; intro a hF
    refine l_at hF rfl rfl rfl (x_pickF (hF.tmp 21 rfl) hb21 rfl) ?_; clear hF; intro a hF
    refine l_at hF rfl rfl rfl (x_move (hF.tmp 23 rfl)) ?_; clear hF; intro a hF
    refine l_offg hF ((wanted_of hF rfl rfl rfl rfl).trans rfl) rfl rfl ?_; clear hF; intro a hF
    refine l_at hF rfl rfl rfl (x_pickF (hF.tmp 24 rfl) rfl rfl) ?_; clear hF; intro a hF
    refine l_at hF rfl rfl rfl (x_assign (hF.tmp 26 rfl)) ?_; clear hF; intro a hF
    refine wpList_nil ?_
    refine hK9 _ _ ?_
    refine wp_ret ?_
    try simp only [Exit.then, Exit.inBlock]
    have hv : false = overO o := by rw [overO_ref hb]; unfold ovR; first | (simp [hc17, hc17, hc21]; done) | (simp [hc17, hc17, hc21]; omega)
    exact fin_ret hF (res1 (v := .bool false) hF rfl rfl) ⟨by rw [hv], hH.mods⟩
  ·have hk17_4 := hc17; try simp only [Bool.or_eq_true, Bool.and_eq_true, Bool.or_eq_false_iff, Bool.and_eq_false_iff, Bool.not_eq_true', Bool.not_eq_false', decide_eq_true_eq, decide_eq_false_iff_not, Bool.not_true, Bool.not_false] at hc17
   refine wp_seq_k fun khK10 hK10 => ?_
   refine wp_region_lit ?_
   refine l_at hF rfl rfl rfl (x_eql (hF.tmp 16 rfl) rfl) ?_; clear hF; intro a hF
   refine l_at hF rfl rfl rfl (x_assign (hF.tmp 28 rfl)) ?_; clear hF; intro a hF
   refine wpList_nil ?_
   refine hK10 _ _ ?_
   refine wp_cond_split (hF.tmp 27 rfl) (fun hc27 => ?_) (fun hc27 => ?_)
   ·have hk27_5 := hc27; try simp only [Bool.or_eq_true, Bool.and_eq_true, Bool.or_eq_false_iff, Bool.and_eq_false_iff, Bool.not_eq_true', Bool.not_eq_false', decide_eq_true_eq, decide_eq_false_iff_not, Bool.not_true, Bool.not_false] at hc27
    refine wp_seq_k fun khK11 hK11 => ?_
    refine wp_region_lit ?_
    refine l_at hF rfl rfl rfl (x_faddr Tryd.underlying55 rfl ty9 (by decide) (hF.tmp 1 rfl) rfl) ?_; clear hF; intro a hF
    refine l_at hF rfl rfl rfl (x_load1 ty9 (hF.tmp 29 rfl) (blk_cell (hH.at 1 rfl) 1 rfl)) ?_; clear hF; intro a hF
    refine l_at hF rfl rfl rfl (x_eqn0 (xs := o.key) (hF.tmp 30 rfl) (show _ = Value.string (strOfNums ([] : List Int)) by kernel_rfl)) ?_; clear hF; intro a hF
    refine l_at hF rfl rfl rfl (x_move (hF.tmp 31 rfl)) ?_; clear hF; intro a hF
    refine split_bool hF 32 rfl (fun hb32 => ?_) (fun hb32 => ?_)
    ·have hc32 := hb32; try simp only [Bool.or_eq_true, Bool.and_eq_true, Bool.or_eq_false_iff, Bool.and_eq_false_iff, Bool.not_eq_true', Bool.not_eq_false', decide_eq_true_eq, decide_eq_false_iff_not, Bool.not_true, Bool.not_false] at hc32
     refine l_atg hF ((wanted_of hF rfl rfl rfl rfl).trans (by rw [hb32]; rfl)) rfl rfl (x_move (hF.tmp 5 rfl)) ?_; clear hF; intro a hF
     refine l_at hF rfl rfl rfl (x_pickT (hF.tmp 32 rfl) hb32 (hF.tmp 33 rfl)) ?_; clear hF; intro a hF
     refine l_at hF rfl rfl rfl (x_move (hF.tmp 34 rfl)) ?_; clear hF; intro a hF
     refine split_bool hF 35 rfl (fun hb35 => ?_) (fun hb35 => ?_)
     ·have hc35 := hb35; try simp only [Bool.or_eq_true, Bool.and_eq_true, Bool.or_eq_false_iff, Bool.and_eq_false_iff, Bool.not_eq_true', Bool.not_eq_false', decide_eq_true_eq, decide_eq_false_iff_not, Bool.not_true, Bool.not_false] at hc35
      refine l_atg hF ((wanted_of hF rfl rfl rfl rfl).trans (by rw [hb35]; rfl)) rfl rfl (x_faddr Tryd.underlying55 rfl ty53 (by decide) (hF.tmp 1 rfl) rfl) ?_; clear hF; intro a hF
      refine l_atg hF ((wanted_of hF rfl rfl rfl rfl).trans (by rw [hb35]; rfl)) rfl rfl (x_loadn (cs := #[.int .i64 o.step.1, .string (strOfNums o.step.2.1), .string (strOfNums o.step.2.2.1), .int .i64 o.step.2.2.2]) ty53 (hF.tmp 36 rfl) rfl (blk_sub (hH.at 1 rfl) 2 4 rfl)) ?_; clear hF; intro a hF
      refine wpList_on ((wanted_of hF rfl rfl rfl rfl).trans (by rw [hb35]; rfl)) fun K hK => ?_
      refine w_call hF (x_enter Tryd.func117 (by kernel_rfl) rfl (by simp only [List.map_toArray, List.map_cons, List.map_nil, hF.tmp 37 rfl] <;> rfl)) (rright_calls _ o.step) rfl rfl ?_
      rintro _ w ⟨rfl, hm_⟩; refine ⟨_, rfl, ?_⟩; clear hF; intro a hF; have hH := hH.same hm_
      refine hK _ _ ?_; clear hK K
      refine l_at hF rfl rfl rfl (x_pickT (hF.tmp 35 rfl) hb35 (hF.tmp 38 rfl)) ?_; clear hF; intro a hF
      refine l_at hF rfl rfl rfl (x_assign (hF.tmp 39 rfl)) ?_; clear hF; intro a hF
      refine wpList_nil ?_
      refine hK11 _ _ ?_
      refine wp_ret ?_
      try simp only [Exit.then, Exit.inBlock]
      have hv : (rightS o.step) = overO o := by rw [overO_ref hb]; unfold ovR; first | (simp [hc17, hc17, hc27, hc32, hc35]; done) | (simp [hc17, hc17, hc27, hc32, hc35]; omega)
      exact fin_ret hF (res1 (v := .bool (rightS o.step)) hF rfl rfl) ⟨by rw [hv], hH.mods⟩
     ·have hc35 := hb35; try simp only [Bool.or_eq_true, Bool.and_eq_true, Bool.or_eq_false_iff, Bool.and_eq_false_iff, Bool.not_eq_true', Bool.not_eq_false', decide_eq_true_eq, decide_eq_false_iff_not, Bool.not_true, Bool.not_false] at hc35
      refine l_offg hF ((wanted_of hF rfl rfl rfl rfl).trans (by rw [hb35]; rfl)) rfl rfl ?_; clear hF; intro a hF
      refine l_offg hF ((wanted_of hF rfl rfl rfl rfl).trans (by rw [hb35]; rfl)) rfl rfl ?_; clear hF; intro a hF
      refine l_offg hF ((wanted_of hF rfl rfl rfl rfl).trans (by rw [hb35]; rfl)) rfl rfl ?_; clear hF; intro a hF
      refine l_at hF rfl rfl rfl (x_pickF (hF.tmp 35 rfl) hb35 rfl) ?_; clear hF; intro a hF
      refine l_at hF rfl rfl rfl (x_assign (hF.tmp 39 rfl)) ?_; clear hF; intro a hF
      refine wpList_nil ?_
      refine hK11 _ _ ?_
      refine wp_ret ?_
      try simp only [Exit.then, Exit.inBlock]
      have hv : false = overO o := by rw [overO_ref hb]; unfold ovR; first | (simp [hc17, hc17, hc27, hc32, hc35]; done) | (simp [hc17, hc17, hc27, hc32, hc35]; omega)
      exact fin_ret hF (res1 (v := .bool false) hF rfl rfl) ⟨by rw [hv], hH.mods⟩
    ·have hc32 := hb32; try simp only [Bool.or_eq_true, Bool.and_eq_true, Bool.or_eq_false_iff, Bool.and_eq_false_iff, Bool.not_eq_true', Bool.not_eq_false', decide_eq_true_eq, decide_eq_false_iff_not, Bool.not_true, Bool.not_false] at hc32
     refine l_offg hF ((wanted_of hF rfl rfl rfl rfl).trans (by rw [hb32]; rfl)) rfl rfl ?_; clear hF; intro a hF
     refine l_at hF rfl rfl rfl (x_pickF (hF.tmp 32 rfl) hb32 rfl) ?_; clear hF; intro a hF
     refine l_at hF rfl rfl rfl (x_move (hF.tmp 34 rfl)) ?_; clear hF; intro a hF
     refine l_offg hF ((wanted_of hF rfl rfl rfl rfl).trans rfl) rfl rfl ?_; clear hF; intro a hF
     refine l_offg hF ((wanted_of hF rfl rfl rfl rfl).trans rfl) rfl rfl ?_; clear hF; intro a hF
     refine l_offg hF ((wanted_of hF rfl rfl rfl rfl).trans rfl) rfl rfl ?_; clear hF; intro a hF
     refine l_at hF rfl rfl rfl (x_pickF (hF.tmp 35 rfl) rfl rfl) ?_; clear hF; intro a hF
     refine l_at hF rfl rfl rfl (x_assign (hF.tmp 39 rfl)) ?_; clear hF; intro a hF
     refine wpList_nil ?_
     refine hK11 _ _ ?_
     refine wp_ret ?_
     try simp only [Exit.then, Exit.inBlock]
     have hv : false = overO o := by rw [overO_ref hb]; unfold ovR; first | (simp [hc17, hc17, hc27, hc32]; done) | (simp [hc17, hc17, hc27, hc32]; omega)
     exact fin_ret hF (res1 (v := .bool false) hF rfl rfl) ⟨by rw [hv], hH.mods⟩
   ·have hk27_6 := hc27; try simp only [Bool.or_eq_true, Bool.and_eq_true, Bool.or_eq_false_iff, Bool.and_eq_false_iff, Bool.not_eq_true', Bool.not_eq_false', decide_eq_true_eq, decide_eq_false_iff_not, Bool.not_true, Bool.not_false] at hc27
    refine wp_seq_k fun khK12 hK12 => ?_
    refine wp_region_lit ?_
    refine l_at hF rfl rfl rfl (x_eql (hF.tmp 16 rfl) rfl) ?_; clear hF; intro a hF
    refine l_at hF rfl rfl rfl (x_assign (hF.tmp 41 rfl)) ?_; clear hF; intro a hF
    refine wpList_nil ?_
    refine hK12 _ _ ?_
    refine wp_cond_split (hF.tmp 40 rfl) (fun hc40 => ?_) (fun hc40 => ?_)
    ·have hk40_7 := hc40; try simp only [Bool.or_eq_true, Bool.and_eq_true, Bool.or_eq_false_iff, Bool.and_eq_false_iff, Bool.not_eq_true', Bool.not_eq_false', decide_eq_true_eq, decide_eq_false_iff_not, Bool.not_true, Bool.not_false] at hc40
     refine wp_seq_k fun khK13 hK13 => ?_
     refine wp_region_lit ?_
     refine l_at hF rfl rfl rfl (x_faddr Tryd.underlying55 rfl ty39 (by decide) (hF.tmp 1 rfl) rfl) ?_; clear hF; intro a hF
     refine l_at hF rfl rfl rfl (x_loadn (cs := #[.string (strOfNums o.timer.name), .int .i64 o.timer.ver, .int .u64 o.timer.tick, .int .u64 o.timer.every, .slice Ao0 o.timer.steps.length co0]) ty39 (hF.tmp 42 rfl) rfl (blk_sub (hH.at 1 rfl) 6 5 rfl)) ?_; clear hF; intro a hF
     refine wpList_plain rfl fun K hK => ?_
     refine w_alloc 6 hF hH rfl ty39 ?_
     clear hF hH; intro a w b6 hF hH
     refine hK _ _ ?_; clear hK K
     refine wpList_plain rfl fun K hK => ?_
     refine w_storeA 6 hH ty39 rfl (hF.tmp 6 rfl) (hF.tmp 43 rfl) rfl (by simp [Value.cells, Value.oneCell']) rfl ?_
     clear hH; intro w hH
     refine hK _ _ ?_; clear hK K
     refine wpList_nil ?_
     refine hK13 _ _ ?_
     refine wp_seq_k fun khK14 hK14 => ?_
     refine wp_region_lit ?_
     refine l_at hF rfl rfl rfl (x_faddr Tryd.underlying39 rfl ty3 (by decide) (hF.tmp 6 rfl) rfl) ?_; clear hF; intro a hF
     refine wpList_plain rfl fun K hK => ?_
     refine w_store 6 hH ty3 rfl (hF.tmp 44 rfl) rfl rfl (one1 rfl rfl) (by first | decide | exact Nat.le_of_ble_eq_true rfl) ?_
     clear hH; intro w hH
     refine hK _ _ ?_; clear hK K
     refine wpList_nil ?_
     refine hK14 _ _ ?_
     refine wp_seq_k fun khK15 hK15 => ?_
     refine wp_region_lit ?_
     refine l_at hF rfl rfl rfl (x_faddr Tryd.underlying55 rfl ty9 (by decide) (hF.tmp 1 rfl) rfl) ?_; clear hF; intro a hF
     refine l_at hF rfl rfl rfl (x_load1 ty9 (hF.tmp 45 rfl) (blk_cell (hH.at 1 rfl) 1 rfl)) ?_; clear hF; intro a hF
     refine l_at hF rfl rfl rfl (x_eqn0 (xs := o.key) (hF.tmp 46 rfl) (show _ = Value.string (strOfNums ([] : List Int)) by kernel_rfl)) ?_; clear hF; intro a hF
     refine l_at hF rfl rfl rfl (x_move (hF.tmp 47 rfl)) ?_; clear hF; intro a hF
     refine split_bool hF 48 rfl (fun hb48 => ?_) (fun hb48 => ?_)
     ·have hc48 := hb48; try simp only [Bool.or_eq_true, Bool.and_eq_true, Bool.or_eq_false_iff, Bool.and_eq_false_iff, Bool.not_eq_true', Bool.not_eq_false', decide_eq_true_eq, decide_eq_false_iff_not, Bool.not_true, Bool.not_false] at hc48
      refine l_atg hF ((wanted_of hF rfl rfl rfl rfl).trans (by rw [hb48]; rfl)) rfl rfl (x_move (hF.tmp 4 rfl)) ?_; clear hF; intro a hF
      refine l_at hF rfl rfl rfl (x_pickT (hF.tmp 48 rfl) hb48 (hF.tmp 49 rfl)) ?_; clear hF; intro a hF
      refine l_at hF rfl rfl rfl (x_move (hF.tmp 50 rfl)) ?_; clear hF; intro a hF
      refine split_bool hF 51 rfl (fun hb51 => ?_) (fun hb51 => ?_)
      ·have hc51 := hb51; try simp only [Bool.or_eq_true, Bool.and_eq_true, Bool.or_eq_false_iff, Bool.and_eq_false_iff, Bool.not_eq_true', Bool.not_eq_false', decide_eq_true_eq, decide_eq_false_iff_not, Bool.not_true, Bool.not_false] at hc51
       refine l_atg hF ((wanted_of hF rfl rfl rfl rfl).trans (by rw [hb51]; rfl)) rfl rfl (x_faddr Tryd.underlying55 rfl ty39 (by decide) (hF.tmp 1 rfl) rfl) ?_; clear hF; intro a hF
       refine l_atg hF ((wanted_of hF rfl rfl rfl rfl).trans (by rw [hb51]; rfl)) rfl rfl (x_faddr Tryd.underlying39 rfl ty3 (by decide) (hF.tmp 52 rfl) rfl) ?_; clear hF; intro a hF
       refine l_atg hF ((wanted_of hF rfl rfl rfl rfl).trans (by rw [hb51]; rfl)) rfl rfl (x_load1 ty3 (hF.tmp 53 rfl) (blk_cell (hH.at 1 rfl) 7 rfl)) ?_; clear hF; intro a hF
       refine l_atg hF ((wanted_of hF rfl rfl rfl rfl).trans (by rw [hb51]; rfl)) rfl rfl (x_eql (hF.tmp 54 rfl) rfl) ?_; clear hF; intro a hF
       refine l_at hF rfl rfl rfl (x_pickT (hF.tmp 51 rfl) hb51 (hF.tmp 55 rfl)) ?_; clear hF; intro a hF
       refine l_at hF rfl rfl rfl (x_move (hF.tmp 56 rfl)) ?_; clear hF; intro a hF
       refine split_bool hF 57 rfl (fun hb57 => ?_) (fun hb57 => ?_)
       ·have hc57 := hb57; try simp only [Bool.or_eq_true, Bool.and_eq_true, Bool.or_eq_false_iff, Bool.and_eq_false_iff, Bool.not_eq_true', Bool.not_eq_false', decide_eq_true_eq, decide_eq_false_iff_not, Bool.not_true, Bool.not_false] at hc57
        refine l_atg hF ((wanted_of hF rfl rfl rfl rfl).trans (by rw [hb57]; rfl)) rfl rfl (x_loadn ty39 (hF.tmp 6 rfl) rfl (blk_whole (hH.at 6 rfl))) ?_; clear hF; intro a hF
        refine wpList_on ((wanted_of hF rfl rfl rfl rfl).trans (by rw [hb57]; rfl)) fun K hK => ?_
        refine w_call hF (x_enter Tryd.func118 (by kernel_rfl) rfl (by simp only [List.map_toArray, List.map_cons, List.map_nil, hF.tmp 58 rfl] <;> rfl)) (r10right_calls (t := verOne o.timer) _ ((hH.rd 900 rfl)) (verOne_B hb.timer)) rfl rfl ?_
        rintro _ w ⟨rfl, hm_⟩; refine ⟨_, rfl, ?_⟩; clear hF; intro a hF; have hH := hH.same hm_
        refine hK _ _ ?_; clear hK K
        refine l_at hF rfl rfl rfl (x_pickT (hF.tmp 57 rfl) hb57 (hF.tmp 59 rfl)) ?_; clear hF; intro a hF
        refine l_at hF rfl rfl rfl (x_assign (hF.tmp 60 rfl)) ?_; clear hF; intro a hF
        refine wpList_nil ?_
        refine hK15 _ _ ?_
        refine wp_ret ?_
        try simp only [Exit.then, Exit.inBlock]
        have hv : (rightT (verOne o.timer)) = overO o := by rw [overO_ref hb]; unfold ovR; first | (simp [hc17, hc17, hc27, hc40, hc48, hc51, hc57]; done) | (simp [hc17, hc17, hc27, hc40, hc48, hc51, hc57]; omega)
        exact fin_ret hF (res1 (v := .bool (rightT (verOne o.timer))) hF rfl rfl) ⟨by rw [hv], hH.mods⟩
       ·have hc57 := hb57; try simp only [Bool.or_eq_true, Bool.and_eq_true, Bool.or_eq_false_iff, Bool.and_eq_false_iff, Bool.not_eq_true', Bool.not_eq_false', decide_eq_true_eq, decide_eq_false_iff_not, Bool.not_true, Bool.not_false] at hc57
        refine l_offg hF ((wanted_of hF rfl rfl rfl rfl).trans (by rw [hb57]; rfl)) rfl rfl ?_; clear hF; intro a hF
        refine l_offg hF ((wanted_of hF rfl rfl rfl rfl).trans (by rw [hb57]; rfl)) rfl rfl ?_; clear hF; intro a hF
        refine l_at hF rfl rfl rfl (x_pickF (hF.tmp 57 rfl) hb57 rfl) ?_; clear hF; intro a hF
        refine l_at hF rfl rfl rfl (x_assign (hF.tmp 60 rfl)) ?_; clear hF; intro a hF
        refine wpList_nil ?_
        refine hK15 _ _ ?_
        refine wp_ret ?_
        try simp only [Exit.then, Exit.inBlock]
        have hv : false = overO o := by rw [overO_ref hb]; unfold ovR; first | (simp [hc17, hc17, hc27, hc40, hc48, hc51, hc57]; done) | (simp [hc17, hc17, hc27, hc40, hc48, hc51, hc57]; omega)
        exact fin_ret hF (res1 (v := .bool false) hF rfl rfl) ⟨by rw [hv], hH.mods⟩
      ·have hc51 := hb51; try simp only [Bool.or_eq_true, Bool.and_eq_true, Bool.or_eq_false_iff, Bool.and_eq_false_iff, Bool.not_eq_true', Bool.not_eq_false', decide_eq_true_eq, decide_eq_false_iff_not, Bool.not_true, Bool.not_false] at hc51
       refine l_offg hF ((wanted_of hF rfl rfl rfl rfl).trans (by rw [hb51]; rfl)) rfl rfl ?_; clear hF; intro a hF
       refine l_offg hF ((wanted_of hF rfl rfl rfl rfl).trans (by rw [hb51]; rfl)) rfl rfl ?_; clear hF; intro a hF
       refine l_offg hF ((wanted_of hF rfl rfl rfl rfl).trans (by rw [hb51]; rfl)) rfl rfl ?_; clear hF; intro a hF
       refine l_offg hF ((wanted_of hF rfl rfl rfl rfl).trans (by rw [hb51]; rfl)) rfl rfl ?_; clear hF; intro a hF
       refine l_at hF rfl rfl rfl (x_pickF (hF.tmp 51 rfl) hb51 rfl) ?_; clear hF; intro a hF
       refine l_at hF rfl rfl rfl (x_move (hF.tmp 56 rfl)) ?_; clear hF; intro a hF
       refine l_offg hF ((wanted_of hF rfl rfl rfl rfl).trans rfl) rfl rfl ?_; clear hF; intro a hF
       refine l_offg hF ((wanted_of hF rfl rfl rfl rfl).trans rfl) rfl rfl ?_; clear hF; intro a hF
       refine l_at hF rfl rfl rfl (x_pickF (hF.tmp 57 rfl) rfl rfl) ?_; clear hF; intro a hF
       refine l_at hF rfl rfl rfl (x_assign (hF.tmp 60 rfl)) ?_; clear hF; intro a hF
       refine wpList_nil ?_
       refine hK15 _ _ ?_
       refine wp_ret ?_
       try simp only [Exit.then, Exit.inBlock]
       have hv : false = overO o := by rw [overO_ref hb]; unfold ovR; first | (simp [hc17, hc17, hc27, hc40, hc48, hc51]; done) | (simp [hc17, hc17, hc27, hc40, hc48, hc51]; omega)
       exact fin_ret hF (res1 (v := .bool false) hF rfl rfl) ⟨by rw [hv], hH.mods⟩
     ·have hc48 := hb48; try simp only [Bool.or_eq_true, Bool.and_eq_true, Bool.or_eq_false_iff, Bool.and_eq_false_iff, Bool.not_eq_true', Bool.not_eq_false', decide_eq_true_eq, decide_eq_false_iff_not, Bool.not_true, Bool.not_false] at hc48
      refine l_offg hF ((wanted_of hF rfl rfl rfl rfl).trans (by rw [hb48]; rfl)) rfl rfl ?_; clear hF; intro a hF
      refine l_at hF rfl rfl rfl (x_pickF (hF.tmp 48 rfl) hb48 rfl) ?_; clear hF; intro a hF
      refine l_at hF rfl rfl rfl (x_move (hF.tmp 50 rfl)) ?_; clear hF; intro a hF
      refine l_offg hF ((wanted_of hF rfl rfl rfl rfl).trans rfl) rfl rfl ?_; clear hF; intro a hF
      refine l_offg hF ((wanted_of hF rfl rfl rfl rfl).trans rfl) rfl rfl ?_; clear hF; intro a hF
      refine l_offg hF ((wanted_of hF rfl rfl rfl rfl).trans rfl) rfl rfl ?_; clear hF; intro a hF
      refine l_offg hF ((wanted_of hF rfl rfl rfl rfl).trans rfl) rfl rfl ?_; clear hF; intro a hF
      refine l_at hF rfl rfl rfl (x_pickF (hF.tmp 51 rfl) rfl rfl) ?_; clear hF; intro a hF
      refine l_at hF rfl rfl rfl (x_move (hF.tmp 56 rfl)) ?_; clear hF; intro a hF
      refine l_offg hF ((wanted_of hF rfl rfl rfl rfl).trans rfl) rfl rfl ?_; clear hF; intro a hF
      refine l_offg hF ((wanted_of hF rfl rfl rfl rfl).trans rfl) rfl rfl ?_; clear hF; intro a hF
      refine l_at hF rfl rfl rfl (x_pickF (hF.tmp 57 rfl) rfl rfl) ?_; clear hF; intro a hF
      refine l_at hF rfl rfl rfl (x_assign (hF.tmp 60 rfl)) ?_; clear hF; intro a hF
      refine wpList_nil ?_
      refine hK15 _ _ ?_
      refine wp_ret ?_
      try simp only [Exit.then, Exit.inBlock]
      have hv : false = overO o := by rw [overO_ref hb]; unfold ovR; first | (simp [hc17, hc17, hc27, hc40, hc48]; done) | (simp [hc17, hc17, hc27, hc40, hc48]; omega)
      exact fin_ret hF (res1 (v := .bool false) hF rfl rfl) ⟨by rw [hv], hH.mods⟩
    ·have hk40_8 := hc40; try simp only [Bool.or_eq_true, Bool.and_eq_true, Bool.or_eq_false_iff, Bool.and_eq_false_iff, Bool.not_eq_true', Bool.not_eq_false', decide_eq_true_eq, decide_eq_false_iff_not, Bool.not_true, Bool.not_false] at hc40
     refine wp_skip ?_
     refine hK4 _ _ ?_
     refine wp_seq_k fun khK16 hK16 => ?_
     refine wp_region_lit ?_
     refine l_at hF rfl rfl rfl (x_assign rfl) ?_; clear hF; intro a hF
     refine wpList_nil ?_
     refine hK16 _ _ ?_
     refine wp_ret ?_
     try simp only [Exit.then, Exit.inBlock]
     have hv : false = overO o := by rw [overO_ref hb]; unfold ovR; first | (simp [hc17, hc17, hc27, hc40]; done) | (simp [hc17, hc17, hc27, hc40]; omega)
     exact fin_ret hF (res1 (v := .bool false) hF rfl rfl) ⟨by rw [hv], hH.mods⟩
set_option maxRecDepth 100000 in
set_option maxHeartbeats 1000000 in
theorem r14lock_calls (w0 : World) {o : OpD} {oko0 : Nat → Prop} {Ao0 : Option Addr} {co0 : Nat} (hro0 : Rd StE w0 oko0 Ao0 o.timer.steps co0) (hb : OpB o) : Calls Tryd.prog 91 #[.agg #[.int .i64 o.kind, .string (strOfNums o.key), .int .i64 o.step.1, .string (strOfNums o.step.2.1), .string (strOfNums o.step.2.2.1), .int .i64 o.step.2.2.2, .string (strOfNums o.timer.name), .int .i64 o.timer.ver, .int .u64 o.timer.tick, .int .u64 o.timer.every, .slice Ao0 o.timer.steps.length co0]] w0 fun e w' => e = .returned (.tuple #[.string (strOfNums (lockT o)), .bool (lockW o)]) ∧ Mods (fun _ => False) w0 w' := by
 refine calls_of_wp Tryd.func91 rfl ?_
 have hF := Fr.enter #[.agg #[.int .i64 o.kind, .string (strOfNums o.key), .int .i64 o.step.1, .string (strOfNums o.step.2.1), .string (strOfNums o.step.2.2.1), .int .i64 o.step.2.2.2, .string (strOfNums o.timer.name), .int .i64 o.timer.ver, .int .u64 o.timer.tick, .int .u64 o.timer.every, .slice Ao0 o.timer.steps.length co0]] 39 (slotsOf [.agg #[.int .i64 o.kind, .string (strOfNums o.key), .int .i64 o.step.1, .string (strOfNums o.step.2.1), .string (strOfNums o.step.2.2.1), .int .i64 o.step.2.2.2, .string (strOfNums o.timer.name), .int .i64 o.timer.ver, .int .u64 o.timer.tick, .int .u64 o.timer.every, .slice Ao0 o.timer.steps.length co0]] 0) (Nat.le_of_ble_eq_true rfl) (fun i v h => by have h2 := (get_slotsOf _ 0 i v h).2; simpa only [List.getElem?_toArray, Nat.sub_zero] using h2)
 have hH := Hp.nil (fun _ => False) w0
 rw [Tryd.ntmps91]
 revert hF; generalize (⟨(#[.agg #[.int .i64 o.kind, .string (strOfNums o.key), .int .i64 o.step.1, .string (strOfNums o.step.2.1), .string (strOfNums o.step.2.2.1), .int .i64 o.step.2.2.2, .string (strOfNums o.timer.name), .int .i64 o.timer.ver, .int .u64 o.timer.tick, .int .u64 o.timer.every, .slice Ao0 o.timer.steps.length co0]] : Array Value) ++ Array.replicate (39 - (#[.agg #[.int .i64 o.kind, .string (strOfNums o.key), .int .i64 o.step.1, .string (strOfNums o.step.2.1), .string (strOfNums o.step.2.2.1), .int .i64 o.step.2.2.2, .string (strOfNums o.timer.name), .int .i64 o.timer.ver, .int .u64 o.timer.tick, .int .u64 o.timer.every, .slice Ao0 o.timer.steps.length co0]] : Array Value).size) undef, []⟩ : Act) = a; intro hF
 have hH := hH.arg 900 hro0.all (fun _ h => ⟨h, fun h => h⟩)
 have hleo0 := hro0.le; unfold maxLen at hleo0
 refine wp_seq_k fun khK1 hK1 => ?_
 refine wp_region_lit ?_
 refine wpList_plain rfl fun K hK => ?_
 refine w_box 1 hF hH rfl (hF.tmp 0 rfl) ?_
 clear hF hH; intro a w b1 hF hH
 refine hK _ _ ?_; clear hK K
 refine l_at hF rfl rfl rfl (x_assign (show _ = Value.string (strOfNums ([] : List Int)) by kernel_rfl)) ?_; clear hF; intro a hF
 refine l_at hF rfl rfl rfl (x_assign rfl) ?_; clear hF; intro a hF
 refine wpList_nil ?_
 refine hK1 _ _ ?_
 refine wp_seq_k fun khK2 hK2 => ?_
 refine wp_region_lit ?_
 refine l_at hF rfl rfl rfl (x_loadn ty55 (hF.tmp 1 rfl) rfl (blk_whole (hH.at 1 rfl))) ?_; clear hF; intro a hF
 refine wpList_plain rfl fun K hK => ?_
 refine w_call hF (x_enter Tryd.func106 (by kernel_rfl) rfl (by simp only [List.map_toArray, List.map_cons, List.map_nil, hF.tmp 5 rfl] <;> rfl)) (r14right_calls (o := o) _ ((hH.rd 900 rfl)) hb) rfl rfl ?_
 rintro _ w ⟨rfl, hm_⟩; refine ⟨_, rfl, ?_⟩; clear hF; intro a hF; have hH := hH.same hm_
 refine hK _ _ ?_; clear hK K
 refine l_at hF rfl rfl rfl (x_assign (hF.tmp 6 rfl)) ?_; clear hF; intro a hF
 refine wpList_nil ?_
 refine hK2 _ _ ?_
 refine wp_seq_k fun khK3 hK3 => ?_
 refine wp_seq_k fun khK4 hK4 => ?_
 refine wp_region_lit ?_
 refine l_at hF rfl rfl rfl (x_move (hF.tmp 4 rfl)) ?_; clear hF; intro a hF
 refine l_at hF rfl rfl rfl (x_not (hF.tmp 7 rfl)) ?_; clear hF; intro a hF
 refine wpList_nil ?_
 refine hK4 _ _ ?_
 refine wp_cond_split (hF.tmp 8 rfl) (fun hc8 => ?_) (fun hc8 => ?_)
 ·have hk8_1 := hc8; try simp only [Bool.or_eq_true, Bool.and_eq_true, Bool.or_eq_false_iff, Bool.and_eq_false_iff, Bool.not_eq_true', Bool.not_eq_false', decide_eq_true_eq, decide_eq_false_iff_not, Bool.not_true, Bool.not_false] at hc8
  refine wp_seq_k fun khK5 hK5 => ?_
  refine wp_region_lit ?_
  refine l_at hF rfl rfl rfl (x_assign (show _ = Value.string (strOfNums ([] : List Int)) by kernel_rfl)) ?_; clear hF; intro a hF
  refine l_at hF rfl rfl rfl (x_assign rfl) ?_; clear hF; intro a hF
  refine wpList_nil ?_
  refine hK5 _ _ ?_
  refine wp_ret ?_
  try simp only [Exit.then, Exit.inBlock]
  have hv : ([] : List Int) = lockT o := by unfold lockT; simp [hc8]
  have hu : false = lockW o := by unfold lockW; simp [hc8]
  exact fin_ret hF (res2 hF rfl rfl rfl) ⟨by rw [← hv, ← hu] <;> rfl, hH.mods⟩
 ·have hk8_2 := hc8; try simp only [Bool.or_eq_true, Bool.and_eq_true, Bool.or_eq_false_iff, Bool.and_eq_false_iff, Bool.not_eq_true', Bool.not_eq_false', decide_eq_true_eq, decide_eq_false_iff_not, Bool.not_true, Bool.not_false] at hc8
  have ho : overO o = true := by simpa using hc8
  have hol := over_lens hb ho
  refine wp_skip ?_
  refine hK3 _ _ ?_
  refine wp_seq_k fun khK6 hK6 => ?_
  refine wp_seq_k fun khK7 hK7 => ?_
  refine wp_region_lit ?_
  refine l_at hF rfl rfl rfl (x_faddr Tryd.underlying55 rfl ty50 (by decide) (hF.tmp 1 rfl) rfl) ?_; clear hF; intro a hF
  refine l_at hF rfl rfl rfl (x_load1 ty50 (hF.tmp 9 rfl) (blk_cell (hH.at 1 rfl) 0 rfl)) ?_; clear hF; intro a hF
  refine wpList_nil ?_
  refine hK7 _ _ ?_
  refine wp_block ?_
  refine wp_seq_k fun khK8 hK8 => ?_
  refine wp_region_lit ?_
  refine l_at hF rfl rfl rfl (x_eql (hF.tmp 10 rfl) rfl) ?_; clear hF; intro a hF
  refine l_at hF rfl rfl rfl (x_assign (hF.tmp 12 rfl)) ?_; clear hF; intro a hF
  refine wpList_nil ?_
  refine hK8 _ _ ?_
  refine wp_cond_split (hF.tmp 11 rfl) (fun hc11 => ?_) (fun hc11 => ?_)
  ·have hk11_3 := hc11; try simp only [Bool.or_eq_true, Bool.and_eq_true, Bool.or_eq_false_iff, Bool.and_eq_false_iff, Bool.not_eq_true', Bool.not_eq_false', decide_eq_true_eq, decide_eq_false_iff_not, Bool.not_true, Bool.not_false] at hc11
   refine wp_seq_k fun khK9 hK9 => ?_
   refine wp_region_lit ?_
   refine l_at hF rfl rfl rfl (x_faddr Tryd.underlying55 rfl ty9 (by decide) (hF.tmp 1 rfl) rfl) ?_; clear hF; intro a hF
   refine l_at hF rfl rfl rfl (x_load1 ty9 (hF.tmp 13 rfl) (blk_cell (hH.at 1 rfl) 1 rfl)) ?_; clear hF; intro a hF
   refine l_at hF rfl rfl rfl (x_adds (xs := ([107] : List Int)) (ys := o.key) (show _ = Value.string (strOfNums ([107] : List Int)) by kernel_rfl) (hF.tmp 14 rfl) (by simp only [List.length_cons, List.length_nil]; omega)) ?_; clear hF; intro a hF
   refine l_at hF rfl rfl rfl (x_assign (hF.tmp 15 rfl)) ?_; clear hF; intro a hF
   refine l_at hF rfl rfl rfl (x_assign rfl) ?_; clear hF; intro a hF
   refine wpList_nil ?_
   refine hK9 _ _ ?_
   refine wp_ret ?_
   try simp only [Exit.then, Exit.inBlock]
   have hv : (([107] : List Int) ++ o.key) = lockT o := by unfold lockT; simp [hc8, hc11]
   have hu : false = lockW o := by unfold lockW; simp [hc8, hc11]
   exact fin_ret hF (res2 hF rfl rfl rfl) ⟨by rw [← hv, ← hu] <;> rfl, hH.mods⟩
  ·have hk11_4 := hc11; try simp only [Bool.or_eq_true, Bool.and_eq_true, Bool.or_eq_false_iff, Bool.and_eq_false_iff, Bool.not_eq_true', Bool.not_eq_false', decide_eq_true_eq, decide_eq_false_iff_not, Bool.not_true, Bool.not_false] at hc11
   refine wp_seq_k fun khK10 hK10 => ?_
   refine wp_region_lit ?_
   refine l_at hF rfl rfl rfl (x_eql (hF.tmp 10 rfl) rfl) ?_; clear hF; intro a hF
   refine l_at hF rfl rfl rfl (x_assign (hF.tmp 17 rfl)) ?_; clear hF; intro a hF
   refine wpList_nil ?_
   refine hK10 _ _ ?_
   refine wp_cond_split (hF.tmp 16 rfl) (fun hc16 => ?_) (fun hc16 => ?_)
   ·have hk16_5 := hc16; try simp only [Bool.or_eq_true, Bool.and_eq_true, Bool.or_eq_false_iff, Bool.and_eq_false_iff, Bool.not_eq_true', Bool.not_eq_false', decide_eq_true_eq, decide_eq_false_iff_not, Bool.not_true, Bool.not_false] at hc16
    refine wp_seq_k fun khK11 hK11 => ?_
    refine wp_region_lit ?_
    refine l_at hF rfl rfl rfl (x_faddr Tryd.underlying55 rfl ty9 (by decide) (hF.tmp 1 rfl) rfl) ?_; clear hF; intro a hF
    refine l_at hF rfl rfl rfl (x_load1 ty9 (hF.tmp 18 rfl) (blk_cell (hH.at 1 rfl) 1 rfl)) ?_; clear hF; intro a hF
    refine l_at hF rfl rfl rfl (x_adds (xs := ([116] : List Int)) (ys := o.key) (show _ = Value.string (strOfNums ([116] : List Int)) by kernel_rfl) (hF.tmp 19 rfl) (by simp only [List.length_cons, List.length_nil]; omega)) ?_; clear hF; intro a hF
    refine l_at hF rfl rfl rfl (x_assign (hF.tmp 20 rfl)) ?_; clear hF; intro a hF
    refine l_at hF rfl rfl rfl (x_assign rfl) ?_; clear hF; intro a hF
    refine wpList_nil ?_
    refine hK11 _ _ ?_
    refine wp_ret ?_
    try simp only [Exit.then, Exit.inBlock]
    have hv : (([116] : List Int) ++ o.key) = lockT o := by unfold lockT; simp [hc8, hc11, hc16]
    have hu : false = lockW o := by unfold lockW; simp [hc8, hc11, hc16]
    exact fin_ret hF (res2 hF rfl rfl rfl) ⟨by rw [← hv, ← hu] <;> rfl, hH.mods⟩
   ·have hk16_6 := hc16; try simp only [Bool.or_eq_true, Bool.and_eq_true, Bool.or_eq_false_iff, Bool.and_eq_false_iff, Bool.not_eq_true', Bool.not_eq_false', decide_eq_true_eq, decide_eq_false_iff_not, Bool.not_true, Bool.not_false] at hc16
    refine wp_seq_k fun khK12 hK12 => ?_
    refine wp_region_lit ?_
    refine l_at hF rfl rfl rfl (x_eql (hF.tmp 10 rfl) rfl) ?_; clear hF; intro a hF
    refine l_at hF rfl rfl rfl (x_assign (hF.tmp 22 rfl)) ?_; clear hF; intro a hF
    refine wpList_nil ?_
    refine hK12 _ _ ?_
    refine wp_cond_split (hF.tmp 21 rfl) (fun hc21 => ?_) (fun hc21 => ?_)
    ·have hk21_7 := hc21; try simp only [Bool.or_eq_true, Bool.and_eq_true, Bool.or_eq_false_iff, Bool.and_eq_false_iff, Bool.not_eq_true', Bool.not_eq_false', decide_eq_true_eq, decide_eq_false_iff_not, Bool.not_true, Bool.not_false] at hc21
     refine wp_seq_k fun khK13 hK13 => ?_
     refine wp_region_lit ?_
     refine l_at hF rfl rfl rfl (x_faddr Tryd.underlying55 rfl ty39 (by decide) (hF.tmp 1 rfl) rfl) ?_; clear hF; intro a hF
     refine l_at hF rfl rfl rfl (x_faddr Tryd.underlying39 rfl ty9 (by decide) (hF.tmp 23 rfl) rfl) ?_; clear hF; intro a hF
     refine l_at hF rfl rfl rfl (x_load1 ty9 (hF.tmp 24 rfl) (blk_cell (hH.at 1 rfl) 6 rfl)) ?_; clear hF; intro a hF
     refine l_at hF rfl rfl rfl (x_adds (xs := ([116] : List Int)) (ys := o.timer.name) (show _ = Value.string (strOfNums ([116] : List Int)) by kernel_rfl) (hF.tmp 25 rfl) (by simp only [List.length_cons, List.length_nil]; omega)) ?_; clear hF; intro a hF
     refine l_at hF rfl rfl rfl (x_assign (hF.tmp 26 rfl)) ?_; clear hF; intro a hF
     refine l_at hF rfl rfl rfl (x_assign rfl) ?_; clear hF; intro a hF
     refine wpList_nil ?_
     refine hK13 _ _ ?_
     refine wp_ret ?_
     try simp only [Exit.then, Exit.inBlock]
     have hv : (([116] : List Int) ++ o.timer.name) = lockT o := by unfold lockT; simp [hc8, hc11, hc16, hc21]
     have hu : true = lockW o := by unfold lockW; simp [hc8, hc11, hc16, hc21]
     exact fin_ret hF (res2 hF rfl rfl rfl) ⟨by rw [← hv, ← hu] <;> rfl, hH.mods⟩
    ·have hk21_8 := hc21; try simp only [Bool.or_eq_true, Bool.and_eq_true, Bool.or_eq_false_iff, Bool.and_eq_false_iff, Bool.not_eq_true', Bool.not_eq_false', decide_eq_true_eq, decide_eq_false_iff_not, Bool.not_true, Bool.not_false] at hc21
     refine wp_skip ?_
     refine hK6 _ _ ?_
     refine wp_seq_k fun khK14 hK14 => ?_
     refine wp_seq_k fun khK15 hK15 => ?_
     refine wp_region_lit ?_
     refine l_at hF rfl rfl rfl (x_faddr Tryd.underlying55 rfl ty53 (by decide) (hF.tmp 1 rfl) rfl) ?_; clear hF; intro a hF
     refine l_at hF rfl rfl rfl (x_faddr Tryd.underlying53 rfl ty51 (by decide) (hF.tmp 27 rfl) rfl) ?_; clear hF; intro a hF
     refine l_at hF rfl rfl rfl (x_load1 ty51 (hF.tmp 28 rfl) (blk_cell (hH.at 1 rfl) 2 rfl)) ?_; clear hF; intro a hF
     refine l_at hF rfl rfl rfl (x_eql (hF.tmp 29 rfl) rfl) ?_; clear hF; intro a hF
     refine wpList_nil ?_
     refine hK15 _ _ ?_
     refine wp_cond_split (hF.tmp 30 rfl) (fun hc30 => ?_) (fun hc30 => ?_)
     ·have hk30_9 := hc30; try simp only [Bool.or_eq_true, Bool.and_eq_true, Bool.or_eq_false_iff, Bool.and_eq_false_iff, Bool.not_eq_true', Bool.not_eq_false', decide_eq_true_eq, decide_eq_false_iff_not, Bool.not_true, Bool.not_false] at hc30
      refine wp_seq_k fun khK16 hK16 => ?_
      refine wp_region_lit ?_
      refine l_at hF rfl rfl rfl (x_faddr Tryd.underlying55 rfl ty53 (by decide) (hF.tmp 1 rfl) rfl) ?_; clear hF; intro a hF
      refine l_at hF rfl rfl rfl (x_faddr Tryd.underlying53 rfl ty9 (by decide) (hF.tmp 31 rfl) rfl) ?_; clear hF; intro a hF
      refine l_at hF rfl rfl rfl (x_load1 ty9 (hF.tmp 32 rfl) (blk_cell (hH.at 1 rfl) 3 rfl)) ?_; clear hF; intro a hF
      refine l_at hF rfl rfl rfl (x_adds (xs := ([116] : List Int)) (ys := o.step.2.1) (show _ = Value.string (strOfNums ([116] : List Int)) by kernel_rfl) (hF.tmp 33 rfl) (by simp only [List.length_cons, List.length_nil]; omega)) ?_; clear hF; intro a hF
      refine l_at hF rfl rfl rfl (x_assign (hF.tmp 34 rfl)) ?_; clear hF; intro a hF
      refine l_at hF rfl rfl rfl (x_assign rfl) ?_; clear hF; intro a hF
      refine wpList_nil ?_
      refine hK16 _ _ ?_
      refine wp_ret ?_
      try simp only [Exit.then, Exit.inBlock]
      have hv : (([116] : List Int) ++ o.step.2.1) = lockT o := by unfold lockT; simp [hc8, hc11, hc16, hc21, hc30]
      have hu : true = lockW o := by unfold lockW; simp [hc8, hc11, hc16, hc21, hc30]
      exact fin_ret hF (res2 hF rfl rfl rfl) ⟨by rw [← hv, ← hu] <;> rfl, hH.mods⟩
     ·have hk30_10 := hc30; try simp only [Bool.or_eq_true, Bool.and_eq_true, Bool.or_eq_false_iff, Bool.and_eq_false_iff, Bool.not_eq_true', Bool.not_eq_false', decide_eq_true_eq, decide_eq_false_iff_not, Bool.not_true, Bool.not_false] at hc30
      refine wp_skip ?_
      refine hK14 _ _ ?_
      refine wp_seq_k fun khK17 hK17 => ?_
      refine wp_region_lit ?_
      refine l_at hF rfl rfl rfl (x_faddr Tryd.underlying55 rfl ty53 (by decide) (hF.tmp 1 rfl) rfl) ?_; clear hF; intro a hF
      refine l_at hF rfl rfl rfl (x_faddr Tryd.underlying53 rfl ty9 (by decide) (hF.tmp 35 rfl) rfl) ?_; clear hF; intro a hF
      refine l_at hF rfl rfl rfl (x_load1 ty9 (hF.tmp 36 rfl) (blk_cell (hH.at 1 rfl) 3 rfl)) ?_; clear hF; intro a hF
      refine l_at hF rfl rfl rfl (x_adds (xs := ([107] : List Int)) (ys := o.step.2.1) (show _ = Value.string (strOfNums ([107] : List Int)) by kernel_rfl) (hF.tmp 37 rfl) (by simp only [List.length_cons, List.length_nil]; omega)) ?_; clear hF; intro a hF
      refine l_at hF rfl rfl rfl (x_assign (hF.tmp 38 rfl)) ?_; clear hF; intro a hF
      refine l_at hF rfl rfl rfl (x_assign rfl) ?_; clear hF; intro a hF
      refine wpList_nil ?_
      refine hK17 _ _ ?_
      refine wp_ret ?_
      try simp only [Exit.then, Exit.inBlock]
      have hv : (([107] : List Int) ++ o.step.2.1) = lockT o := by unfold lockT; simp [hc8, hc11, hc16, hc21, hc30]
      have hu : true = lockW o := by unfold lockW; simp [hc8, hc11, hc16, hc21, hc30]
      exact fin_ret hF (res2 hF rfl rfl rfl) ⟨by rw [← hv, ← hu] <;> rfl, hH.mods⟩
set_option maxRecDepth 100000 in
set_option maxHeartbeats 1000000 in
theorem r22right_calls (w0 : World) {r : SReqD} {okr0 : Nat → Prop} {Ar0 : Option Addr} {cr0 : Nat} (hrr0 : Rd OpdE w0 okr0 Ar0 r.ops cr0) (hb : SReqB r) : Calls Tryd.prog 62 #[.agg #[.string (strOfNums r.client), .int .i64 r.num, .slice Ar0 r.ops.length cr0]] w0 fun e w' => e = .returned (.bool (rightQ r)) ∧ Mods (fun _ => False) w0 w' := by
 refine calls_of_wp Tryd.func62 rfl ?_
 have hF := Fr.enter #[.agg #[.string (strOfNums r.client), .int .i64 r.num, .slice Ar0 r.ops.length cr0]] 88 (slotsOf [.agg #[.string (strOfNums r.client), .int .i64 r.num, .slice Ar0 r.ops.length cr0]] 0) (Nat.le_of_ble_eq_true rfl) (fun i v h => by have h2 := (get_slotsOf _ 0 i v h).2; simpa only [List.getElem?_toArray, Nat.sub_zero] using h2)
 have hH := Hp.nil (fun _ => False) w0
 rw [Tryd.ntmps62]
 revert hF; generalize (⟨(#[.agg #[.string (strOfNums r.client), .int .i64 r.num, .slice Ar0 r.ops.length cr0]] : Array Value) ++ Array.replicate (88 - (#[.agg #[.string (strOfNums r.client), .int .i64 r.num, .slice Ar0 r.ops.length cr0]] : Array Value).size) undef, []⟩ : Act) = a; intro hF
 have hH := hH.arg 900 hrr0.all (fun _ h => ⟨h, fun h => h⟩)
 have hler0 := hrr0.le; unfold maxLen at hler0
 refine wp_seq_k fun khK1 hK1 => ?_
 refine wp_region_lit ?_
 refine wpList_plain rfl fun K hK => ?_
 refine w_box 1 hF hH rfl (hF.tmp 0 rfl) ?_
 clear hF hH; intro a w b1 hF hH
 refine hK _ _ ?_; clear hK K
 refine l_at hF rfl rfl rfl (x_assign rfl) ?_; clear hF; intro a hF
 refine wpList_nil ?_
 refine hK1 _ _ ?_
 refine wp_seq_k fun khK2 hK2 => ?_
 refine wp_seq_k fun khK3 hK3 => ?_
 refine wp_region_lit ?_
 refine l_at hF rfl rfl rfl (x_faddr Tryd.underlying81 rfl ty9 (by decide) (hF.tmp 1 rfl) rfl) ?_; clear hF; intro a hF
 refine l_at hF rfl rfl rfl (x_load1 ty9 (hF.tmp 7 rfl) (blk_cell (hH.at 1 rfl) 0 rfl)) ?_; clear hF; intro a hF
 refine l_at hF rfl rfl rfl (x_len_sn (xs := r.client) Tryd.underlying9 (hF.tmp 8 rfl)) ?_; clear hF; intro a hF
 refine l_at hF rfl rfl rfl (x_lss (hF.tmp 9 rfl) rfl) ?_; clear hF; intro a hF
 refine l_at hF rfl rfl rfl (x_move (hF.tmp 10 rfl)) ?_; clear hF; intro a hF
 refine split_bool hF 11 rfl (fun hb11 => ?_) (fun hb11 => ?_)
 ·have hc11 := hb11; try simp only [Bool.or_eq_true, Bool.and_eq_true, Bool.or_eq_false_iff, Bool.and_eq_false_iff, Bool.not_eq_true', Bool.not_eq_false', decide_eq_true_eq, decide_eq_false_iff_not, Bool.not_true, Bool.not_false] at hc11
  refine l_offg hF ((wanted_of hF rfl rfl rfl rfl).trans (by rw [hb11]; rfl)) rfl rfl ?_; clear hF; intro a hF
  refine l_offg hF ((wanted_of hF rfl rfl rfl rfl).trans (by rw [hb11]; rfl)) rfl rfl ?_; clear hF; intro a hF
  refine l_offg hF ((wanted_of hF rfl rfl rfl rfl).trans (by rw [hb11]; rfl)) rfl rfl ?_; clear hF; intro a hF
  refine l_offg hF ((wanted_of hF rfl rfl rfl rfl).trans (by rw [hb11]; rfl)) rfl rfl ?_; clear hF; intro a hF
  refine l_at hF rfl rfl rfl (x_pickT (hF.tmp 11 rfl) hb11 rfl) ?_; clear hF; intro a hF
  refine l_at hF rfl rfl rfl (x_move (hF.tmp 16 rfl)) ?_; clear hF; intro a hF
  refine l_offg hF ((wanted_of hF rfl rfl rfl rfl).trans rfl) rfl rfl ?_; clear hF; intro a hF
  refine l_offg hF ((wanted_of hF rfl rfl rfl rfl).trans rfl) rfl rfl ?_; clear hF; intro a hF
  refine l_offg hF ((wanted_of hF rfl rfl rfl rfl).trans rfl) rfl rfl ?_; clear hF; intro a hF
  refine l_at hF rfl rfl rfl (x_pickT (hF.tmp 17 rfl) rfl rfl) ?_; clear hF; intro a hF
  refine l_at hF rfl rfl rfl (x_move (hF.tmp 21 rfl)) ?_; clear hF; intro a hF
  refine l_offg hF ((wanted_of hF rfl rfl rfl rfl).trans rfl) rfl rfl ?_; clear hF; intro a hF
  refine l_offg hF ((wanted_of hF rfl rfl rfl rfl).trans rfl) rfl rfl ?_; clear hF; intro a hF
  refine l_offg hF ((wanted_of hF rfl rfl rfl rfl).trans rfl) rfl rfl ?_; clear hF; intro a hF
  refine l_at hF rfl rfl rfl (x_pickT (hF.tmp 22 rfl) rfl rfl) ?_; clear hF; intro a hF
  refine l_at hF rfl rfl rfl (x_move (hF.tmp 26 rfl)) ?_; clear hF; intro a hF
  refine l_offg hF ((wanted_of hF rfl rfl rfl rfl).trans rfl) rfl rfl ?_; clear hF; intro a hF
  refine l_offg hF ((wanted_of hF rfl rfl rfl rfl).trans rfl) rfl rfl ?_; clear hF; intro a hF
  refine l_offg hF ((wanted_of hF rfl rfl rfl rfl).trans rfl) rfl rfl ?_; clear hF; intro a hF
  refine l_offg hF ((wanted_of hF rfl rfl rfl rfl).trans rfl) rfl rfl ?_; clear hF; intro a hF
  refine l_at hF rfl rfl rfl (x_pickT (hF.tmp 27 rfl) rfl rfl) ?_; clear hF; intro a hF
  refine l_at hF rfl rfl rfl (x_move (hF.tmp 32 rfl)) ?_; clear hF; intro a hF
  refine l_offg hF ((wanted_of hF rfl rfl rfl rfl).trans rfl) rfl rfl ?_; clear hF; intro a hF
  refine l_offg hF ((wanted_of hF rfl rfl rfl rfl).trans rfl) rfl rfl ?_; clear hF; intro a hF
  refine l_offg hF ((wanted_of hF rfl rfl rfl rfl).trans rfl) rfl rfl ?_; clear hF; intro a hF
  refine l_offg hF ((wanted_of hF rfl rfl rfl rfl).trans rfl) rfl rfl ?_; clear hF; intro a hF
  refine l_at hF rfl rfl rfl (x_pickT (hF.tmp 33 rfl) rfl rfl) ?_; clear hF; intro a hF
  refine wpList_nil ?_
  refine hK3 _ _ ?_
  refine wp_cond_true (hF.tmp 38 rfl) ?_
  refine wp_seq_k fun khK4 hK4 => ?_
  refine wp_region_lit ?_
  refine l_at hF rfl rfl rfl (x_assign rfl) ?_; clear hF; intro a hF
  refine wpList_nil ?_
  refine hK4 _ _ ?_
  refine wp_ret ?_
  try simp only [Exit.then, Exit.inBlock]
  have hz : rightQ r = false := rightQ_not (by omega)
  exact fin_ret hF (res1 (v := .bool false) hF rfl rfl) ⟨by rw [hz], hH.mods⟩
 ·have hc11 := hb11; try simp only [Bool.or_eq_true, Bool.and_eq_true, Bool.or_eq_false_iff, Bool.and_eq_false_iff, Bool.not_eq_true', Bool.not_eq_false', decide_eq_true_eq, decide_eq_false_iff_not, Bool.not_true, Bool.not_false] at hc11
  refine l_atg hF ((wanted_of hF rfl rfl rfl rfl).trans (by rw [hb11]; rfl)) rfl rfl (x_faddr Tryd.underlying81 rfl ty9 (by decide) (hF.tmp 1 rfl) rfl) ?_; clear hF; intro a hF
  refine l_atg hF ((wanted_of hF rfl rfl rfl rfl).trans (by rw [hb11]; rfl)) rfl rfl (x_load1 ty9 (hF.tmp 12 rfl) (blk_cell (hH.at 1 rfl) 0 rfl)) ?_; clear hF; intro a hF
  refine l_atg hF ((wanted_of hF rfl rfl rfl rfl).trans (by rw [hb11]; rfl)) rfl rfl (x_len_sn (xs := r.client) Tryd.underlying9 (hF.tmp 13 rfl)) ?_; clear hF; intro a hF
  refine l_atg hF ((wanted_of hF rfl rfl rfl rfl).trans (by rw [hb11]; rfl)) rfl rfl (x_gtr (hF.tmp 14 rfl) rfl) ?_; clear hF; intro a hF
  refine l_at hF rfl rfl rfl (x_pickF (hF.tmp 11 rfl) hb11 (hF.tmp 15 rfl)) ?_; clear hF; intro a hF
  refine l_at hF rfl rfl rfl (x_move (hF.tmp 16 rfl)) ?_; clear hF; intro a hF
  refine split_bool hF 17 rfl (fun hb17 => ?_) (fun hb17 => ?_)
  ·have hc17 := hb17; try simp only [Bool.or_eq_true, Bool.and_eq_true, Bool.or_eq_false_iff, Bool.and_eq_false_iff, Bool.not_eq_true', Bool.not_eq_false', decide_eq_true_eq, decide_eq_false_iff_not, Bool.not_true, Bool.not_false] at hc17
   refine l_offg hF ((wanted_of hF rfl rfl rfl rfl).trans (by rw [hb17]; rfl)) rfl rfl ?_; clear hF; intro a hF
   refine l_offg hF ((wanted_of hF rfl rfl rfl rfl).trans (by rw [hb17]; rfl)) rfl rfl ?_; clear hF; intro a hF
   refine l_offg hF ((wanted_of hF rfl rfl rfl rfl).trans (by rw [hb17]; rfl)) rfl rfl ?_; clear hF; intro a hF
   refine l_at hF rfl rfl rfl (x_pickT (hF.tmp 17 rfl) hb17 rfl) ?_; clear hF; intro a hF
   refine l_at hF rfl rfl rfl (x_move (hF.tmp 21 rfl)) ?_; clear hF; intro a hF
   refine l_offg hF ((wanted_of hF rfl rfl rfl rfl).trans rfl) rfl rfl ?_; clear hF; intro a hF
   refine l_offg hF ((wanted_of hF rfl rfl rfl rfl).trans rfl) rfl rfl ?_; clear hF; intro a hF
   refine l_offg hF ((wanted_of hF rfl rfl rfl rfl).trans rfl) rfl rfl ?_; clear hF; intro a hF
   refine l_at hF rfl rfl rfl (x_pickT (hF.tmp 22 rfl) rfl rfl) ?_; clear hF; intro a hF
   refine l_at hF rfl rfl rfl (x_move (hF.tmp 26 rfl)) ?_; clear hF; intro a hF
   refine l_offg hF ((wanted_of hF rfl rfl rfl rfl).trans rfl) rfl rfl ?_; clear hF; intro a hF
   refine l_offg hF ((wanted_of hF rfl rfl rfl rfl).trans rfl) rfl rfl ?_; clear hF; intro a hF
   refine l_offg hF ((wanted_of hF rfl rfl rfl rfl).trans rfl) rfl rfl ?_; clear hF; intro a hF
   refine l_offg hF ((wanted_of hF rfl rfl rfl rfl).trans rfl) rfl rfl ?_; clear hF; intro a hF
   refine l_at hF rfl rfl rfl (x_pickT (hF.tmp 27 rfl) rfl rfl) ?_; clear hF; intro a hF
   refine l_at hF rfl rfl rfl (x_move (hF.tmp 32 rfl)) ?_; clear hF; intro a hF
   refine l_offg hF ((wanted_of hF rfl rfl rfl rfl).trans rfl) rfl rfl ?_; clear hF; intro a hF
   refine l_offg hF ((wanted_of hF rfl rfl rfl rfl).trans rfl) rfl rfl ?_; clear hF; intro a hF
   refine l_offg hF ((wanted_of hF rfl rfl rfl rfl).trans rfl) rfl rfl ?_; clear hF; intro a hF
   refine l_offg hF ((wanted_of hF rfl rfl rfl rfl).trans rfl) rfl rfl ?_; clear hF; intro a hF
   refine l_at hF rfl rfl rfl (x_pickT (hF.tmp 33 rfl) rfl rfl) ?_; clear hF; intro a hF
   refine wpList_nil ?_
   refine hK3 _ _ ?_
   refine wp_cond_true (hF.tmp 38 rfl) ?_
   refine wp_seq_k fun khK5 hK5 => ?_
   refine wp_region_lit ?_
   refine l_at hF rfl rfl rfl (x_assign rfl) ?_; clear hF; intro a hF
   refine wpList_nil ?_
   refine hK5 _ _ ?_
   refine wp_ret ?_
   try simp only [Exit.then, Exit.inBlock]
   have hz : rightQ r = false := rightQ_not (by omega)
   exact fin_ret hF (res1 (v := .bool false) hF rfl rfl) ⟨by rw [hz], hH.mods⟩
  ·have hc17 := hb17; try simp only [Bool.or_eq_true, Bool.and_eq_true, Bool.or_eq_false_iff, Bool.and_eq_false_iff, Bool.not_eq_true', Bool.not_eq_false', decide_eq_true_eq, decide_eq_false_iff_not, Bool.not_true, Bool.not_false] at hc17
   refine l_atg hF ((wanted_of hF rfl rfl rfl rfl).trans (by rw [hb17]; rfl)) rfl rfl (x_faddr Tryd.underlying81 rfl ty3 (by decide) (hF.tmp 1 rfl) rfl) ?_; clear hF; intro a hF
   refine l_atg hF ((wanted_of hF rfl rfl rfl rfl).trans (by rw [hb17]; rfl)) rfl rfl (x_load1 ty3 (hF.tmp 18 rfl) (blk_cell (hH.at 1 rfl) 1 rfl)) ?_; clear hF; intro a hF
   refine l_atg hF ((wanted_of hF rfl rfl rfl rfl).trans (by rw [hb17]; rfl)) rfl rfl (x_lss (hF.tmp 19 rfl) rfl) ?_; clear hF; intro a hF
   refine l_at hF rfl rfl rfl (x_pickF (hF.tmp 17 rfl) hb17 (hF.tmp 20 rfl)) ?_; clear hF; intro a hF
   refine l_at hF rfl rfl rfl (x_move (hF.tmp 21 rfl)) ?_; clear hF; intro a hF
   refine split_bool hF 22 rfl (fun hb22 => ?_) (fun hb22 => ?_)
   ·have hc22 := hb22; try simp only [Bool.or_eq_true, Bool.and_eq_true, Bool.or_eq_false_iff, Bool.and_eq_false_iff, Bool.not_eq_true', Bool.not_eq_false', decide_eq_true_eq, decide_eq_false_iff_not, Bool.not_true, Bool.not_false] at hc22
    refine l_offg hF ((wanted_of hF rfl rfl rfl rfl).trans (by rw [hb22]; rfl)) rfl rfl ?_; clear hF; intro a hF
    refine l_offg hF ((wanted_of hF rfl rfl rfl rfl).trans (by rw [hb22]; rfl)) rfl rfl ?_; clear hF; intro a hF
    refine l_offg hF ((wanted_of hF rfl rfl rfl rfl).trans (by rw [hb22]; rfl)) rfl rfl ?_; clear hF; intro a hF
    refine l_at hF rfl rfl rfl (x_pickT (hF.tmp 22 rfl) hb22 rfl) ?_; clear hF; intro a hF
    refine l_at hF rfl rfl rfl (x_move (hF.tmp 26 rfl)) ?_; clear hF; intro a hF
    refine l_offg hF ((wanted_of hF rfl rfl rfl rfl).trans rfl) rfl rfl ?_; clear hF; intro a hF
    refine l_offg hF ((wanted_of hF rfl rfl rfl rfl).trans rfl) rfl rfl ?_; clear hF; intro a hF
    refine l_offg hF ((wanted_of hF rfl rfl rfl rfl).trans rfl) rfl rfl ?_; clear hF; intro a hF
    refine l_offg hF ((wanted_of hF rfl rfl rfl rfl).trans rfl) rfl rfl ?_; clear hF; intro a hF
    refine l_at hF rfl rfl rfl (x_pickT (hF.tmp 27 rfl) rfl rfl) ?_; clear hF; intro a hF
    refine l_at hF rfl rfl rfl (x_move (hF.tmp 32 rfl)) ?_; clear hF; intro a hF
    refine l_offg hF ((wanted_of hF rfl rfl rfl rfl).trans rfl) rfl rfl ?_; clear hF; intro a hF
    refine l_offg hF ((wanted_of hF rfl rfl rfl rfl).trans rfl) rfl rfl ?_; clear hF; intro a hF
    refine l_offg hF ((wanted_of hF rfl rfl rfl rfl).trans rfl) rfl rfl ?_; clear hF; intro a hF
    refine l_offg hF ((wanted_of hF rfl rfl rfl rfl).trans rfl) rfl rfl ?_; clear hF; intro a hF
    refine l_at hF rfl rfl rfl (x_pickT (hF.tmp 33 rfl) rfl rfl) ?_; clear hF; intro a hF
    refine wpList_nil ?_
    refine hK3 _ _ ?_
    refine wp_cond_true (hF.tmp 38 rfl) ?_
    refine wp_seq_k fun khK6 hK6 => ?_
    refine wp_region_lit ?_
    refine l_at hF rfl rfl rfl (x_assign rfl) ?_; clear hF; intro a hF
    refine wpList_nil ?_
    refine hK6 _ _ ?_
    refine wp_ret ?_
    try simp only [Exit.then, Exit.inBlock]
    have hz : rightQ r = false := rightQ_not (by omega)
    exact fin_ret hF (res1 (v := .bool false) hF rfl rfl) ⟨by rw [hz], hH.mods⟩
   ·have hc22 := hb22; try simp only [Bool.or_eq_true, Bool.and_eq_true, Bool.or_eq_false_iff, Bool.and_eq_false_iff, Bool.not_eq_true', Bool.not_eq_false', decide_eq_true_eq, decide_eq_false_iff_not, Bool.not_true, Bool.not_false] at hc22
    refine l_atg hF ((wanted_of hF rfl rfl rfl rfl).trans (by rw [hb22]; rfl)) rfl rfl (x_faddr Tryd.underlying81 rfl ty3 (by decide) (hF.tmp 1 rfl) rfl) ?_; clear hF; intro a hF
    refine l_atg hF ((wanted_of hF rfl rfl rfl rfl).trans (by rw [hb22]; rfl)) rfl rfl (x_load1 ty3 (hF.tmp 23 rfl) (blk_cell (hH.at 1 rfl) 1 rfl)) ?_; clear hF; intro a hF
    refine l_atg hF ((wanted_of hF rfl rfl rfl rfl).trans (by rw [hb22]; rfl)) rfl rfl (x_gtr (hF.tmp 24 rfl) rfl) ?_; clear hF; intro a hF
    refine l_at hF rfl rfl rfl (x_pickF (hF.tmp 22 rfl) hb22 (hF.tmp 25 rfl)) ?_; clear hF; intro a hF
    refine l_at hF rfl rfl rfl (x_move (hF.tmp 26 rfl)) ?_; clear hF; intro a hF
    refine split_bool hF 27 rfl (fun hb27 => ?_) (fun hb27 => ?_)
    ·have hc27 := hb27; try simp only [Bool.or_eq_true, Bool.and_eq_true, Bool.or_eq_false_iff, Bool.and_eq_false_iff, Bool.not_eq_true', Bool.not_eq_false', decide_eq_true_eq, decide_eq_false_iff_not, Bool.not_true, Bool.not_false] at hc27
     refine l_offg hF ((wanted_of hF rfl rfl rfl rfl).trans (by rw [hb27]; rfl)) rfl rfl ?_; clear hF; intro a hF
     refine l_offg hF ((wanted_of hF rfl rfl rfl rfl).trans (by rw [hb27]; rfl)) rfl rfl ?_; clear hF; intro a hF
     refine l_offg hF ((wanted_of hF rfl rfl rfl rfl).trans (by rw [hb27]; rfl)) rfl rfl ?_; clear hF; intro a hF
     refine l_offg hF ((wanted_of hF rfl rfl rfl rfl).trans (by rw [hb27]; rfl)) rfl rfl ?_; clear hF; intro a hF
     refine l_at hF rfl rfl rfl (x_pickT (hF.tmp 27 rfl) hb27 rfl) ?_; clear hF; intro a hF
     refine l_at hF rfl rfl rfl (x_move (hF.tmp 32 rfl)) ?_; clear hF; intro a hF
     refine l_offg hF ((wanted_of hF rfl rfl rfl rfl).trans rfl) rfl rfl ?_; clear hF; intro a hF
     refine l_offg hF ((wanted_of hF rfl rfl rfl rfl).trans rfl) rfl rfl ?_; clear hF; intro a hF
     refine l_offg hF ((wanted_of hF rfl rfl rfl rfl).trans rfl) rfl rfl ?_; clear hF; intro a hF
     refine l_offg hF ((wanted_of hF rfl rfl rfl rfl).trans rfl) rfl rfl ?_; clear hF; intro a hF
     refine l_at hF rfl rfl rfl (x_pickT (hF.tmp 33 rfl) rfl rfl) ?_; clear hF; intro a hF
     refine wpList_nil ?_
     refine hK3 _ _ ?_
     refine wp_cond_true (hF.tmp 38 rfl) ?_
     refine wp_seq_k fun khK7 hK7 => ?_
     refine wp_region_lit ?_
     refine l_at hF rfl rfl rfl (x_assign rfl) ?_; clear hF; intro a hF
     refine wpList_nil ?_
     refine hK7 _ _ ?_
     refine wp_ret ?_
     try simp only [Exit.then, Exit.inBlock]
     have hz : rightQ r = false := rightQ_not (by omega)
     exact fin_ret hF (res1 (v := .bool false) hF rfl rfl) ⟨by rw [hz], hH.mods⟩
    ·have hc27 := hb27; try simp only [Bool.or_eq_true, Bool.and_eq_true, Bool.or_eq_false_iff, Bool.and_eq_false_iff, Bool.not_eq_true', Bool.not_eq_false', decide_eq_true_eq, decide_eq_false_iff_not, Bool.not_true, Bool.not_false] at hc27
     refine l_atg hF ((wanted_of hF rfl rfl rfl rfl).trans (by rw [hb27]; rfl)) rfl rfl (x_faddr Tryd.underlying81 rfl ty43 (by decide) (hF.tmp 1 rfl) rfl) ?_; clear hF; intro a hF
     refine l_atg hF ((wanted_of hF rfl rfl rfl rfl).trans (by rw [hb27]; rfl)) rfl rfl (x_load1 ty43 (hF.tmp 28 rfl) (blk_cell (hH.at 1 rfl) 2 rfl)) ?_; clear hF; intro a hF
     refine l_atg hF ((wanted_of hF rfl rfl rfl rfl).trans (by rw [hb27]; rfl)) rfl rfl (x_len_slice Tryd.underlying43 (hF.tmp 29 rfl)) ?_; clear hF; intro a hF
     refine l_atg hF ((wanted_of hF rfl rfl rfl rfl).trans (by rw [hb27]; rfl)) rfl rfl (x_lss (hF.tmp 30 rfl) rfl) ?_; clear hF; intro a hF
     refine l_at hF rfl rfl rfl (x_pickF (hF.tmp 27 rfl) hb27 (hF.tmp 31 rfl)) ?_; clear hF; intro a hF
     refine l_at hF rfl rfl rfl (x_move (hF.tmp 32 rfl)) ?_; clear hF; intro a hF
     refine split_bool hF 33 rfl (fun hb33 => ?_) (fun hb33 => ?_)
     ·have hc33 := hb33; try simp only [Bool.or_eq_true, Bool.and_eq_true, Bool.or_eq_false_iff, Bool.and_eq_false_iff, Bool.not_eq_true', Bool.not_eq_false', decide_eq_true_eq, decide_eq_false_iff_not, Bool.not_true, Bool.not_false] at hc33
      refine l_offg hF ((wanted_of hF rfl rfl rfl rfl).trans (by rw [hb33]; rfl)) rfl rfl ?_; clear hF; intro a hF
      refine l_offg hF ((wanted_of hF rfl rfl rfl rfl).trans (by rw [hb33]; rfl)) rfl rfl ?_; clear hF; intro a hF
      refine l_offg hF ((wanted_of hF rfl rfl rfl rfl).trans (by rw [hb33]; rfl)) rfl rfl ?_; clear hF; intro a hF
      refine l_offg hF ((wanted_of hF rfl rfl rfl rfl).trans (by rw [hb33]; rfl)) rfl rfl ?_; clear hF; intro a hF
      refine l_at hF rfl rfl rfl (x_pickT (hF.tmp 33 rfl) hb33 rfl) ?_; clear hF; intro a hF
      refine wpList_nil ?_
      refine hK3 _ _ ?_
      refine wp_cond_true (hF.tmp 38 rfl) ?_
      refine wp_seq_k fun khK8 hK8 => ?_
      refine wp_region_lit ?_
      refine l_at hF rfl rfl rfl (x_assign rfl) ?_; clear hF; intro a hF
      refine wpList_nil ?_
      refine hK8 _ _ ?_
      refine wp_ret ?_
      try simp only [Exit.then, Exit.inBlock]
      have hz : rightQ r = false := rightQ_not (by omega)
      exact fin_ret hF (res1 (v := .bool false) hF rfl rfl) ⟨by rw [hz], hH.mods⟩
     ·have hc33 := hb33; try simp only [Bool.or_eq_true, Bool.and_eq_true, Bool.or_eq_false_iff, Bool.and_eq_false_iff, Bool.not_eq_true', Bool.not_eq_false', decide_eq_true_eq, decide_eq_false_iff_not, Bool.not_true, Bool.not_false] at hc33
      refine l_atg hF ((wanted_of hF rfl rfl rfl rfl).trans (by rw [hb33]; rfl)) rfl rfl (x_faddr Tryd.underlying81 rfl ty43 (by decide) (hF.tmp 1 rfl) rfl) ?_; clear hF; intro a hF
      refine l_atg hF ((wanted_of hF rfl rfl rfl rfl).trans (by rw [hb33]; rfl)) rfl rfl (x_load1 ty43 (hF.tmp 34 rfl) (blk_cell (hH.at 1 rfl) 2 rfl)) ?_; clear hF; intro a hF
      refine l_atg hF ((wanted_of hF rfl rfl rfl rfl).trans (by rw [hb33]; rfl)) rfl rfl (x_len_slice Tryd.underlying43 (hF.tmp 35 rfl)) ?_; clear hF; intro a hF
      refine l_atg hF ((wanted_of hF rfl rfl rfl rfl).trans (by rw [hb33]; rfl)) rfl rfl (x_gtr (hF.tmp 36 rfl) rfl) ?_; clear hF; intro a hF
      refine l_at hF rfl rfl rfl (x_pickF (hF.tmp 33 rfl) hb33 (hF.tmp 37 rfl)) ?_; clear hF; intro a hF
      refine wpList_nil ?_
      refine hK3 _ _ ?_
      refine wp_cond_split (hF.tmp 38 rfl) (fun hc38 => ?_) (fun hc38 => ?_)
      ·have hk38_1 := hc38; try simp only [Bool.or_eq_true, Bool.and_eq_true, Bool.or_eq_false_iff, Bool.and_eq_false_iff, Bool.not_eq_true', Bool.not_eq_false', decide_eq_true_eq, decide_eq_false_iff_not, Bool.not_true, Bool.not_false] at hc38
       have hz : rightQ r = false := rightQ_not (by omega)
       refine wp_seq_k fun khK9 hK9 => ?_
       refine wp_region_lit ?_
       refine l_at hF rfl rfl rfl (x_assign rfl) ?_; clear hF; intro a hF
       refine wpList_nil ?_
       refine hK9 _ _ ?_
       refine wp_ret ?_
       try simp only [Exit.then, Exit.inBlock]
       exact fin_ret hF (res1 (v := .bool false) hF rfl rfl) ⟨by rw [hz], hH.mods⟩
      ·have hk38_2 := hc38; try simp only [Bool.or_eq_true, Bool.and_eq_true, Bool.or_eq_false_iff, Bool.and_eq_false_iff, Bool.not_eq_true', Bool.not_eq_false', decide_eq_true_eq, decide_eq_false_iff_not, Bool.not_true, Bool.not_false] at hc38
       have hall := rightQ_all (r := r) (by omega) (by omega) (by omega) (by omega) (by omega) (by omega)
       refine wp_skip ?_
       refine hK2 _ _ ?_
       refine wp_seq_k fun khK10 hK10 => ?_
       refine wp_seq_k fun khK11 hK11 => ?_
       refine wp_region_lit ?_
       refine l_at hF rfl rfl rfl (x_assign rfl) ?_; clear hF; intro a hF
       refine wpList_nil ?_
       refine hK11 _ _ ?_
       refine wp_block ?_
       refine wp_loop_ghost (fun n_ a w => ∃ k : Nat, n_ = r.ops.length - k ∧ (k ≤ r.ops.length) ∧ ((r.ops.take k).any wrongO = false) ∧ Fr 88 a [(1, .pointer (some ⟨b1, 0, none⟩)), (3, .int .i64 (k : Int))] ∧ Hp (fun _ => False) w0 w [(900, .rd_ OpdE Ar0 r.ops cr0 (fun k => k < w0.heap.size)), (1, .blk b1 (.cells #[.string (strOfNums r.client), .int .i64 r.num, .slice Ar0 r.ops.length cr0] 81 (0, 0)))]) (r.ops.length) ?_ ?_
       ·exact ⟨0, rfl, by omega, rfl, ((hF.bare.add hF 3 rfl).add hF 1 rfl), hH.sub _ (sub_cons (sub_cons (sub_nil _) 1 rfl) 900 rfl)⟩
       ·rintro _ a w ⟨k, rfl, hq0_0, hq0_1, hF, hH⟩
        refine wp_seq_k fun khK12 hK12 => ?_
        refine wp_seq_k fun khK13 hK13 => ?_
        refine wp_region_lit ?_
        refine l_at hF rfl rfl rfl (x_move (hF.tmp 3 rfl)) ?_; clear hF; intro a hF
        refine l_at hF rfl rfl rfl (x_faddr Tryd.underlying81 rfl ty43 (by decide) (hF.tmp 1 rfl) rfl) ?_; clear hF; intro a hF
        refine l_at hF rfl rfl rfl (x_load1 ty43 (hF.tmp 40 rfl) (blk_cell (hH.at 1 rfl) 2 rfl)) ?_; clear hF; intro a hF
        refine l_at hF rfl rfl rfl (x_len_slice Tryd.underlying43 (hF.tmp 41 rfl)) ?_; clear hF; intro a hF
        refine l_at hF rfl rfl rfl (x_lss (hF.tmp 39 rfl) (hF.tmp 42 rfl)) ?_; clear hF; intro a hF
        refine wpList_nil ?_
        refine hK13 _ _ ?_
        refine wp_cond_split (hF.tmp 43 rfl) (fun hc43 => ?_) (fun hc43 => ?_)
        ·have hk43_3 := hc43; try simp only [Bool.or_eq_true, Bool.and_eq_true, Bool.or_eq_false_iff, Bool.and_eq_false_iff, Bool.not_eq_true', Bool.not_eq_false', decide_eq_true_eq, decide_eq_false_iff_not, Bool.not_true, Bool.not_false] at hc43
         refine wp_skip ?_
         refine hK12 _ _ ?_
         refine wp_seq_k fun khK14 hK14 => ?_
         refine wp_block ?_
         refine wp_seq_k fun khK15 hK15 => ?_
         refine wp_region_lit ?_
         obtain ⟨fA1, fc1, hfr1, hf1_0, hf1_1, hf1_2, hf1_3, hf1_4, hf1_5, hf1_6, hf1_7, hf1_8, hf1_9, hf1_10, hfw1⟩ := rd_opd ((hH.rd 900 rfl)) (gopd_some (xs := r.ops) (i := (k : Int)) (by omega) (by omega))
         have hH := hH.subrd 900 rfl 1010 hfr1 (fun _ h => h)
         have hH := hH.subcels 900 rfl 1499 hfw1 (Rd.inok ((hH.rd 900 rfl)) (by omega) _)
         have hH := hH.subcel 900 rfl 1500 hf1_0 (Rd.inok ((hH.rd 900 rfl)) (by omega) _)
         have hH := hH.subcel 900 rfl 1501 hf1_1 (Rd.inok ((hH.rd 900 rfl)) (by omega) _)
         have hH := hH.subcel 900 rfl 1502 hf1_2 (Rd.inok ((hH.rd 900 rfl)) (by omega) _)
         have hH := hH.subcel 900 rfl 1503 hf1_3 (Rd.inok ((hH.rd 900 rfl)) (by omega) _)
         have hH := hH.subcel 900 rfl 1504 hf1_4 (Rd.inok ((hH.rd 900 rfl)) (by omega) _)
         have hH := hH.subcel 900 rfl 1505 hf1_5 (Rd.inok ((hH.rd 900 rfl)) (by omega) _)
         have hH := hH.subcel 900 rfl 1506 hf1_6 (Rd.inok ((hH.rd 900 rfl)) (by omega) _)
         have hH := hH.subcel 900 rfl 1507 hf1_7 (Rd.inok ((hH.rd 900 rfl)) (by omega) _)
         have hH := hH.subcel 900 rfl 1508 hf1_8 (Rd.inok ((hH.rd 900 rfl)) (by omega) _)
         have hH := hH.subcel 900 rfl 1509 hf1_9 (Rd.inok ((hH.rd 900 rfl)) (by omega) _)
         have hH := hH.subcel 900 rfl 1510 hf1_10 (Rd.inok ((hH.rd 900 rfl)) (by omega) _)
         refine l_at hF rfl rfl rfl (x_faddr Tryd.underlying81 rfl ty43 (by decide) (hF.tmp 1 rfl) rfl) ?_; clear hF; intro a hF
         refine l_at hF rfl rfl rfl (x_load1 ty43 (hF.tmp 47 rfl) (blk_cell (hH.at 1 rfl) 2 rfl)) ?_; clear hF; intro a hF
         refine l_at hF rfl rfl rfl (x_move (hF.tmp 3 rfl)) ?_; clear hF; intro a hF
         refine l_at hF rfl rfl rfl (x_iaddr_A Tryd.underlying43 ty55 ((hH.rd 900 rfl)) (hF.tmp 48 rfl) (hF.tmp 49 rfl) (by omega) (by omega) _) ?_; clear hF; intro a hF
         refine l_at hF rfl rfl rfl (x_loadn ty55 (hF.tmp 50 rfl) rfl (hH.holds 1499 _ rfl)) ?_; clear hF; intro a hF
         refine wpList_plain rfl fun K hK => ?_
         refine w_call hF (x_enter Tryd.func91 (by kernel_rfl) rfl (by simp only [List.map_toArray, List.map_cons, List.map_nil, hF.tmp 51 rfl] <;> rfl)) (r14lock_calls (o := (gopd r.ops (k : Int))) _ ((hH.rd 1010 rfl)) (hb.ops _ (gopd_mem (xs := r.ops) (j := k) (by omega)))) rfl rfl ?_
         rintro _ w ⟨rfl, hm_⟩; refine ⟨_, rfl, ?_⟩; clear hF; intro a hF; have hH := hH.same hm_
         refine hK _ _ ?_; clear hK K
         refine l_at hF rfl rfl rfl (x_move (hF.tmp 52 rfl)) ?_; clear hF; intro a hF
         refine l_at hF rfl rfl rfl (x_extract (hF.tmp 46 rfl) rfl) ?_; clear hF; intro a hF
         refine l_at hF rfl rfl rfl (x_extract (hF.tmp 46 rfl) rfl) ?_; clear hF; intro a hF
         refine l_at hF rfl rfl rfl (x_assign (hF.tmp 53 rfl)) ?_; clear hF; intro a hF
         refine l_at hF rfl rfl rfl (x_assign (hF.tmp 54 rfl)) ?_; clear hF; intro a hF
         refine wpList_nil ?_
         refine hK15 _ _ ?_
         refine wp_seq_k fun khK16 hK16 => ?_
         refine wp_seq_k fun khK17 hK17 => ?_
         refine wp_region_lit ?_
         refine l_at hF rfl rfl rfl (x_move (hF.tmp 4 rfl)) ?_; clear hF; intro a hF
         refine l_at hF rfl rfl rfl (x_len_sn (xs := (lockT (gopd r.ops (k : Int)))) Tryd.underlying9 (hF.tmp 55 rfl)) ?_; clear hF; intro a hF
         refine l_at hF rfl rfl rfl (x_lss (hF.tmp 56 rfl) rfl) ?_; clear hF; intro a hF
         refine l_at hF rfl rfl rfl (x_move (hF.tmp 57 rfl)) ?_; clear hF; intro a hF
         refine split_bool hF 58 rfl (fun hb58 => ?_) (fun hb58 => ?_)
         ·have hc58 := hb58; try simp only [Bool.or_eq_true, Bool.and_eq_true, Bool.or_eq_false_iff, Bool.and_eq_false_iff, Bool.not_eq_true', Bool.not_eq_false', decide_eq_true_eq, decide_eq_false_iff_not, Bool.not_true, Bool.not_false] at hc58
          have hz := rightQ_bad (gopd_mem (xs := r.ops) (j := k) (by omega)) (wrongO_short (hb.ops _ (gopd_mem (xs := r.ops) (j := k) (by omega))) (by omega))
          refine l_offg hF ((wanted_of hF rfl rfl rfl rfl).trans (by rw [hb58]; rfl)) rfl rfl ?_; clear hF; intro a hF
          refine l_offg hF ((wanted_of hF rfl rfl rfl rfl).trans (by rw [hb58]; rfl)) rfl rfl ?_; clear hF; intro a hF
          refine l_offg hF ((wanted_of hF rfl rfl rfl rfl).trans (by rw [hb58]; rfl)) rfl rfl ?_; clear hF; intro a hF
          refine l_at hF rfl rfl rfl (x_pickT (hF.tmp 58 rfl) hb58 rfl) ?_; clear hF; intro a hF
          refine wpList_nil ?_
          refine hK17 _ _ ?_
          refine wp_cond_true (hF.tmp 62 rfl) ?_
          refine wp_seq_k fun khK18 hK18 => ?_
          refine wp_region_lit ?_
          refine l_at hF rfl rfl rfl (x_assign rfl) ?_; clear hF; intro a hF
          refine wpList_nil ?_
          refine hK18 _ _ ?_
          refine wp_ret ?_
          try simp only [Exit.then, Exit.inBlock]
          exact fin_ret hF (res1 (v := .bool false) hF rfl rfl) ⟨by rw [hz], hH.mods⟩
         ·have hc58 := hb58; try simp only [Bool.or_eq_true, Bool.and_eq_true, Bool.or_eq_false_iff, Bool.and_eq_false_iff, Bool.not_eq_true', Bool.not_eq_false', decide_eq_true_eq, decide_eq_false_iff_not, Bool.not_true, Bool.not_false] at hc58
          have hll := lockT_byte (hb.ops _ (gopd_mem (xs := r.ops) (j := k) (by omega)))
          refine l_atg hF ((wanted_of hF rfl rfl rfl rfl).trans (by rw [hb58]; rfl)) rfl rfl (x_move (hF.tmp 4 rfl)) ?_; clear hF; intro a hF
          refine l_atg hF ((wanted_of hF rfl rfl rfl rfl).trans (by rw [hb58]; rfl)) rfl rfl (x_idxS (xs := (lockT (gopd r.ops (k : Int)))) Tryd.underlying9 (hF.tmp 59 rfl) rfl (by assumption) (by omega) (by omega)) ?_; clear hF; intro a hF
          refine l_atg hF ((wanted_of hF rfl rfl rfl rfl).trans (by rw [hb58]; rfl)) rfl rfl (x_eql (hF.tmp 60 rfl) rfl) ?_; clear hF; intro a hF
          refine l_at hF rfl rfl rfl (x_pickF (hF.tmp 58 rfl) hb58 (hF.tmp 61 rfl)) ?_; clear hF; intro a hF
          refine wpList_nil ?_
          refine hK17 _ _ ?_
          refine wp_cond_split (hF.tmp 62 rfl) (fun hc62 => ?_) (fun hc62 => ?_)
          ·have hk62_4 := hc62; try simp only [Bool.or_eq_true, Bool.and_eq_true, Bool.or_eq_false_iff, Bool.and_eq_false_iff, Bool.not_eq_true', Bool.not_eq_false', decide_eq_true_eq, decide_eq_false_iff_not, Bool.not_true, Bool.not_false] at hc62
           have hz := rightQ_bad (gopd_mem (xs := r.ops) (j := k) (by omega)) (wrongO_name (by omega) (by omega))
           refine wp_seq_k fun khK19 hK19 => ?_
           refine wp_region_lit ?_
           refine l_at hF rfl rfl rfl (x_assign rfl) ?_; clear hF; intro a hF
           refine wpList_nil ?_
           refine hK19 _ _ ?_
           refine wp_ret ?_
           try simp only [Exit.then, Exit.inBlock]
           exact fin_ret hF (res1 (v := .bool false) hF rfl rfl) ⟨by rw [hz], hH.mods⟩
          ·have hk62_5 := hc62; try simp only [Bool.or_eq_true, Bool.and_eq_true, Bool.or_eq_false_iff, Bool.and_eq_false_iff, Bool.not_eq_true', Bool.not_eq_false', decide_eq_true_eq, decide_eq_false_iff_not, Bool.not_true, Bool.not_false] at hc62
           have ho : overO (gopd r.ops (k : Int)) = true := over_of (by omega)
           have hks := keys_len (hb.ops _ (gopd_mem (xs := r.ops) (j := k) (by omega))) ho
           refine wp_skip ?_
           refine hK16 _ _ ?_
           refine wp_seq_k fun khK20 hK20 => ?_
           refine wp_region_lit ?_
           refine l_at hF rfl rfl rfl (x_assign rfl) ?_; clear hF; intro a hF
           refine wpList_nil ?_
           refine hK20 _ _ ?_
           refine wp_block ?_
           refine wp_loop_ghost (fun n_ a w => ∃ j : Nat, n_ = (gopd r.ops (k : Int)).timer.steps.length - j ∧ (j ≤ (gopd r.ops (k : Int)).timer.steps.length) ∧ (((gopd r.ops (k : Int)).timer.steps.take j).any (fun s : StepD => oursI s.2.1) = false) ∧ Fr 88 a [(1, .pointer (some ⟨b1, 0, none⟩)), (3, .int .i64 (k : Int)), (6, .int .i64 (j : Int))] ∧ Hp (fun _ => False) w0 w [(900, .rd_ OpdE Ar0 r.ops cr0 (fun k => k < w0.heap.size)), (1, .blk b1 (.cells #[.string (strOfNums r.client), .int .i64 r.num, .slice Ar0 r.ops.length cr0] 81 (0, 0))), (1010, .rd_ StE (fA1) (gopd r.ops (k : Int)).timer.steps fc1 (fun k => k < w0.heap.size)), (1499, .cels (adr Ar0 (Int.toNat (k : Int) * 11)) #[.int .i64 (gopd r.ops (k : Int)).kind, .string (strOfNums (gopd r.ops (k : Int)).key), .int .i64 (gopd r.ops (k : Int)).step.1, .string (strOfNums (gopd r.ops (k : Int)).step.2.1), .string (strOfNums (gopd r.ops (k : Int)).step.2.2.1), .int .i64 (gopd r.ops (k : Int)).step.2.2.2, .string (strOfNums (gopd r.ops (k : Int)).timer.name), .int .i64 (gopd r.ops (k : Int)).timer.ver, .int .u64 (gopd r.ops (k : Int)).timer.tick, .int .u64 (gopd r.ops (k : Int)).timer.every, .slice fA1 (gopd r.ops (k : Int)).timer.steps.length fc1]), (1500, .cel (adr Ar0 (Int.toNat (k : Int) * 11)) (.int .i64 (gopd r.ops (k : Int)).kind)), (1501, .cel (adr Ar0 (Int.toNat (k : Int) * 11 + 1)) (.string (strOfNums (gopd r.ops (k : Int)).key))), (1502, .cel (adr Ar0 (Int.toNat (k : Int) * 11 + 2)) (.int .i64 (gopd r.ops (k : Int)).step.1)), (1503, .cel (adr Ar0 (Int.toNat (k : Int) * 11 + 3)) (.string (strOfNums (gopd r.ops (k : Int)).step.2.1))), (1504, .cel (adr Ar0 (Int.toNat (k : Int) * 11 + 4)) (.string (strOfNums (gopd r.ops (k : Int)).step.2.2.1))), (1505, .cel (adr Ar0 (Int.toNat (k : Int) * 11 + 5)) (.int .i64 (gopd r.ops (k : Int)).step.2.2.2)), (1506, .cel (adr Ar0 (Int.toNat (k : Int) * 11 + 6)) (.string (strOfNums (gopd r.ops (k : Int)).timer.name))), (1507, .cel (adr Ar0 (Int.toNat (k : Int) * 11 + 7)) (.int .i64 (gopd r.ops (k : Int)).timer.ver)), (1508, .cel (adr Ar0 (Int.toNat (k : Int) * 11 + 8)) (.int .u64 (gopd r.ops (k : Int)).timer.tick)), (1509, .cel (adr Ar0 (Int.toNat (k : Int) * 11 + 9)) (.int .u64 (gopd r.ops (k : Int)).timer.every)), (1510, .cel (adr Ar0 (Int.toNat (k : Int) * 11 + 10)) (.slice fA1 (gopd r.ops (k : Int)).timer.steps.length fc1))]) ((gopd r.ops (k : Int)).timer.steps.length) ?_ ?_
           ·exact ⟨0, rfl, by omega, rfl, (((hF.bare.add hF 6 rfl).add hF 3 rfl).add hF 1 rfl), hH.sub _ (sub_cons (sub_cons (sub_cons (sub_cons (sub_cons (sub_cons (sub_cons (sub_cons (sub_cons (sub_cons (sub_cons (sub_cons (sub_cons (sub_cons (sub_cons (sub_nil _) 1510 rfl) 1509 rfl) 1508 rfl) 1507 rfl) 1506 rfl) 1505 rfl) 1504 rfl) 1503 rfl) 1502 rfl) 1501 rfl) 1500 rfl) 1499 rfl) 1010 rfl) 1 rfl) 900 rfl)⟩
           ·rintro _ a w ⟨j, rfl, hq2_0, hq2_1, hF, hH⟩
            refine wp_seq_k fun khK21 hK21 => ?_
            refine wp_seq_k fun khK22 hK22 => ?_
            refine wp_region_lit ?_
            refine l_at hF rfl rfl rfl (x_move (hF.tmp 6 rfl)) ?_; clear hF; intro a hF
            refine l_at hF rfl rfl rfl (x_faddr Tryd.underlying81 rfl ty43 (by decide) (hF.tmp 1 rfl) rfl) ?_; clear hF; intro a hF
            refine l_at hF rfl rfl rfl (x_load1 ty43 (hF.tmp 64 rfl) (blk_cell (hH.at 1 rfl) 2 rfl)) ?_; clear hF; intro a hF
            refine l_at hF rfl rfl rfl (x_move (hF.tmp 3 rfl)) ?_; clear hF; intro a hF
            refine l_at hF rfl rfl rfl (x_iaddr_A Tryd.underlying43 ty55 ((hH.rd 900 rfl)) (hF.tmp 65 rfl) (hF.tmp 66 rfl) (by omega) (by omega) _) ?_; clear hF; intro a hF
            refine l_at hF rfl rfl rfl (x_faddrA ((hH.rd 900 rfl)) (by omega) _ Tryd.underlying55 rfl ty39 (by decide) (hF.tmp 67 rfl) rfl) ?_; clear hF; intro a hF
            refine l_at hF rfl rfl rfl (x_faddrA (o' := Int.toNat (k : Int) * 11 + 10) ((hH.rd 900 rfl)) (by omega) _ Tryd.underlying39 rfl ty37 (by decide) (hF.tmp 68 rfl) (Nat.add_assoc _ _ _)) ?_; clear hF; intro a hF
            refine l_at hF rfl rfl rfl (x_load1 ty37 (hF.tmp 69 rfl) (hH.holds 1510 _ rfl)) ?_; clear hF; intro a hF
            refine l_at hF rfl rfl rfl (x_len_slice Tryd.underlying37 (hF.tmp 70 rfl)) ?_; clear hF; intro a hF
            refine l_at hF rfl rfl rfl (x_lss (hF.tmp 63 rfl) (hF.tmp 71 rfl)) ?_; clear hF; intro a hF
            refine wpList_nil ?_
            refine hK22 _ _ ?_
            refine wp_cond_split (hF.tmp 72 rfl) (fun hc72 => ?_) (fun hc72 => ?_)
            ·have hk72_6 := hc72; try simp only [Bool.or_eq_true, Bool.and_eq_true, Bool.or_eq_false_iff, Bool.and_eq_false_iff, Bool.not_eq_true', Bool.not_eq_false', decide_eq_true_eq, decide_eq_false_iff_not, Bool.not_true, Bool.not_false] at hc72
             refine wp_skip ?_
             refine hK21 _ _ ?_
             refine wp_seq_k fun khK23 hK23 => ?_
             refine wp_block ?_
             refine wp_seq_k fun khK24 hK24 => ?_
             refine wp_region_lit ?_
             have hlst := (hH.rd 1010 rfl).le; unfold maxLen at hlst
             obtain ⟨hf2_0, hf2_1, hf2_2, hf2_3, hfw2⟩ := rd_st ((hH.rd 1010 rfl)) (gst_some (xs := (gopd r.ops (k : Int)).timer.steps) (i := (j : Int)) (by omega) (by omega))
             have hH := hH.subcels 1010 rfl 2499 hfw2 (Rd.inok ((hH.rd 1010 rfl)) (by omega) _)
             have hH := hH.subcel 1010 rfl 2500 hf2_0 (Rd.inok ((hH.rd 1010 rfl)) (by omega) _)
             have hH := hH.subcel 1010 rfl 2501 hf2_1 (Rd.inok ((hH.rd 1010 rfl)) (by omega) _)
             have hH := hH.subcel 1010 rfl 2502 hf2_2 (Rd.inok ((hH.rd 1010 rfl)) (by omega) _)
             have hH := hH.subcel 1010 rfl 2503 hf2_3 (Rd.inok ((hH.rd 1010 rfl)) (by omega) _)
             have hkl := hks _ (gst_mem (xs := (gopd r.ops (k : Int)).timer.steps) (j := j) (by omega))
             have hkb := ((hb.ops _ (gopd_mem (xs := r.ops) (j := k) (by omega))).timer.steps _ (gst_mem (xs := (gopd r.ops (k : Int)).timer.steps) (j := j) (by omega))).1
             refine l_at hF rfl rfl rfl (x_faddr Tryd.underlying81 rfl ty43 (by decide) (hF.tmp 1 rfl) rfl) ?_; clear hF; intro a hF
             refine l_at hF rfl rfl rfl (x_load1 ty43 (hF.tmp 75 rfl) (blk_cell (hH.at 1 rfl) 2 rfl)) ?_; clear hF; intro a hF
             refine l_at hF rfl rfl rfl (x_move (hF.tmp 3 rfl)) ?_; clear hF; intro a hF
             refine l_at hF rfl rfl rfl (x_iaddr_A Tryd.underlying43 ty55 ((hH.rd 900 rfl)) (hF.tmp 76 rfl) (hF.tmp 77 rfl) (by omega) (by omega) _) ?_; clear hF; intro a hF
             refine l_at hF rfl rfl rfl (x_faddrA ((hH.rd 900 rfl)) (by omega) _ Tryd.underlying55 rfl ty39 (by decide) (hF.tmp 78 rfl) rfl) ?_; clear hF; intro a hF
             refine l_at hF rfl rfl rfl (x_faddrA (o' := Int.toNat (k : Int) * 11 + 10) ((hH.rd 900 rfl)) (by omega) _ Tryd.underlying39 rfl ty37 (by decide) (hF.tmp 79 rfl) (Nat.add_assoc _ _ _)) ?_; clear hF; intro a hF
             refine l_at hF rfl rfl rfl (x_load1 ty37 (hF.tmp 80 rfl) (hH.holds 1510 _ rfl)) ?_; clear hF; intro a hF
             refine l_at hF rfl rfl rfl (x_move (hF.tmp 6 rfl)) ?_; clear hF; intro a hF
             refine l_at hF rfl rfl rfl (x_iaddr_A Tryd.underlying37 ty53 ((hH.rd 1010 rfl)) (hF.tmp 81 rfl) (hF.tmp 82 rfl) (by omega) (by omega) _) ?_; clear hF; intro a hF
             refine l_at hF rfl rfl rfl (x_faddrA ((hH.rd 1010 rfl)) (by omega) _ Tryd.underlying53 rfl ty9 (by decide) (hF.tmp 83 rfl) rfl) ?_; clear hF; intro a hF
             refine l_at hF rfl rfl rfl (x_load1 ty9 (hF.tmp 84 rfl) (hH.holds 2501 _ rfl)) ?_; clear hF; intro a hF
             refine l_at hF rfl rfl rfl (x_idxS (xs := ((gst ((gopd r.ops (k : Int)).timer.steps) (j : Int)).2.1)) Tryd.underlying9 (hF.tmp 85 rfl) rfl (by assumption) (by omega) (by omega)) ?_; clear hF; intro a hF
             refine l_at hF rfl rfl rfl (x_eql (hF.tmp 86 rfl) rfl) ?_; clear hF; intro a hF
             refine wpList_nil ?_
             refine hK24 _ _ ?_
             refine wp_cond_split (hF.tmp 87 rfl) (fun hc87 => ?_) (fun hc87 => ?_)
             ·have hk87_7 := hc87; try simp only [Bool.or_eq_true, Bool.and_eq_true, Bool.or_eq_false_iff, Bool.and_eq_false_iff, Bool.not_eq_true', Bool.not_eq_false', decide_eq_true_eq, decide_eq_false_iff_not, Bool.not_true, Bool.not_false] at hc87
              have hz := rightQ_bad (gopd_mem (xs := r.ops) (j := k) (by omega)) (wrongO_step (gst_mem (xs := (gopd r.ops (k : Int)).timer.steps) (j := j) (by omega)) (hks _ (gst_mem (xs := (gopd r.ops (k : Int)).timer.steps) (j := j) (by omega))).1 (by omega))
              refine wp_seq_k fun khK25 hK25 => ?_
              refine wp_region_lit ?_
              refine l_at hF rfl rfl rfl (x_assign rfl) ?_; clear hF; intro a hF
              refine wpList_nil ?_
              refine hK25 _ _ ?_
              refine wp_ret ?_
              try simp only [Exit.then, Exit.inBlock]
              exact fin_ret hF (res1 (v := .bool false) hF rfl rfl) ⟨by rw [hz], hH.mods⟩
             ·have hk87_8 := hc87; try simp only [Bool.or_eq_true, Bool.and_eq_true, Bool.or_eq_false_iff, Bool.and_eq_false_iff, Bool.not_eq_true', Bool.not_eq_false', decide_eq_true_eq, decide_eq_false_iff_not, Bool.not_true, Bool.not_false] at hc87
              refine wp_skip ?_
              refine hK23 _ _ ?_
              refine wp_region_lit ?_
              refine l_at hF rfl rfl rfl (x_move (hF.tmp 6 rfl)) ?_; clear hF; intro a hF
              refine l_at hF rfl rfl rfl (x_add (hF.tmp 73 rfl) rfl (w64 (by omega) (by omega))) ?_; clear hF; intro a hF
              refine l_at hF rfl rfl rfl (x_assign (hF.tmp 74 rfl)) ?_; clear hF; intro a hF
              refine wpList_nil ?_
              exact ⟨_, by omega, ⟨j + 1, rfl, by omega, any_take (p := fun s : StepD => oursI s.2.1) (gst_some (xs := (gopd r.ops (k : Int)).timer.steps) (i := (j : Int)) (by omega) (by omega)) hq2_1 (by rw [ours_gi hkl.1]; exact decide_eq_false (by omega)), (((hF.bare.add hF 6 rfl).add hF 3 rfl).add hF 1 rfl), hH.sub _ (sub_cons (sub_cons (sub_cons (sub_cons (sub_cons (sub_cons (sub_cons (sub_cons (sub_cons (sub_cons (sub_cons (sub_cons (sub_cons (sub_cons (sub_cons (sub_nil _) 1510 rfl) 1509 rfl) 1508 rfl) 1507 rfl) 1506 rfl) 1505 rfl) 1504 rfl) 1503 rfl) 1502 rfl) 1501 rfl) 1500 rfl) 1499 rfl) 1010 rfl) 1 rfl) 900 rfl)⟩⟩
            ·have hk72_9 := hc72; try simp only [Bool.or_eq_true, Bool.and_eq_true, Bool.or_eq_false_iff, Bool.and_eq_false_iff, Bool.not_eq_true', Bool.not_eq_false', decide_eq_true_eq, decide_eq_false_iff_not, Bool.not_true, Bool.not_false] at hc72
             obtain rfl : j = (gopd r.ops (k : Int)).timer.steps.length := by omega
             rw [List.take_length] at hq2_1
             refine wp_exit ?_
             refine hK14 _ _ ?_
             refine wp_region_lit ?_
             refine l_at hF rfl rfl rfl (x_move (hF.tmp 3 rfl)) ?_; clear hF; intro a hF
             refine l_at hF rfl rfl rfl (x_add (hF.tmp 44 rfl) rfl (w64 (by omega) (by omega))) ?_; clear hF; intro a hF
             refine l_at hF rfl rfl rfl (x_assign (hF.tmp 45 rfl)) ?_; clear hF; intro a hF
             refine wpList_nil ?_
             exact ⟨_, by omega, ⟨k + 1, rfl, by omega, any_take (gopd_some (xs := r.ops) (i := (k : Int)) (by omega) (by omega)) hq0_1 (wrongO_right (by omega) (by omega) hq2_1), ((hF.bare.add hF 3 rfl).add hF 1 rfl), hH.sub _ (sub_cons (sub_cons (sub_nil _) 1 rfl) 900 rfl)⟩⟩
        ·have hk43_10 := hc43; try simp only [Bool.or_eq_true, Bool.and_eq_true, Bool.or_eq_false_iff, Bool.and_eq_false_iff, Bool.not_eq_true', Bool.not_eq_false', decide_eq_true_eq, decide_eq_false_iff_not, Bool.not_true, Bool.not_false] at hc43
         obtain rfl : k = r.ops.length := by omega
         rw [List.take_length] at hq0_1
         have hz : rightQ r = true := by rw [hall, hq0_1]; rfl
         refine wp_exit ?_
         refine hK10 _ _ ?_
         refine wp_seq_k fun khK26 hK26 => ?_
         refine wp_region_lit ?_
         refine l_at hF rfl rfl rfl (x_assign rfl) ?_; clear hF; intro a hF
         refine wpList_nil ?_
         refine hK26 _ _ ?_
         refine wp_ret ?_
         try simp only [Exit.then, Exit.inBlock]
         exact fin_ret hF (res1 (v := .bool true) hF rfl rfl) ⟨by rw [hz], hH.mods⟩
end Go.Proofs.YtiiklnghnifmjaaDoor.Act
