/- A request's transaction, the law. -/
import Derived.Test.YtiiklnghnifmjaaDoorSesA
import Derived.Test.YtiiklnghnifmjaaDoorSamD
import Derived.Test.YtiiklnghnifmjaaDoorSeW
set_option linter.unusedVariables false
set_option linter.unusedSimpArgs false
namespace Go.Proofs.YtiiklnghnifmjaaDoor.Act
open Go.RowKit Go.Proofs.YtiiklnghnifmjaaDoor.Sx Go.Proofs.YtiiklnghnifmjaaDoor.Cod Go.Proofs.YtiiklnghnifmjaaDoor.Num
set_option maxRecDepth 100000 in
set_option maxHeartbeats 1000000 in
theorem r9same_calls (w0 : World) {ok1 : Nat → Prop} {A1 : Option Addr} {xs1 : List StepD} {c1 : Nat} (hr1 : Rd StE w0 ok1 A1 xs1 c1) {ok2 : Nat → Prop} {A2 : Option Addr} {xs2 : List StepD} {c2 : Nat} (hr2 : Rd StE w0 ok2 A2 xs2 c2) (hb1 : ∀ s ∈ xs1, StepB s) (hb2 : ∀ s ∈ xs2, StepB s) : Calls Tryd.prog 105 #[.slice A1 xs1.length c1, .slice A2 xs2.length c2] w0 fun e w' => e = .returned (.bool (decide (xs1 = xs2))) ∧ Mods (fun _ => False) w0 w' := by
  refine calls_of_wp Tryd.func105 rfl ?_
  have hF := Fr.enter #[.slice A1 xs1.length c1, .slice A2 xs2.length c2] 26 (slotsOf [.slice A1 xs1.length c1, .slice A2 xs2.length c2] 0) (Nat.le_of_ble_eq_true rfl) (fun i v h => by have h2 := (get_slotsOf _ 0 i v h).2; simpa only [List.getElem?_toArray, Nat.sub_zero] using h2)
  have hH := Hp.nil (fun _ => False) w0
  rw [Tryd.ntmps105]
  revert hF; generalize (⟨(#[.slice A1 xs1.length c1, .slice A2 xs2.length c2] : Array Value) ++ Array.replicate (26 - (#[.slice A1 xs1.length c1, .slice A2 xs2.length c2] : Array Value).size) undef, []⟩ : Act) = a; intro hF
  have hH := hH.arg 901 hr1.all (fun _ h => ⟨h, fun h => h⟩)
  have hle901 := hr1.le; unfold maxLen at hle901
  have hH := hH.arg 902 hr2.all (fun _ h => ⟨h, fun h => h⟩)
  have hle902 := hr2.le; unfold maxLen at hle902
  refine wp_seq_k fun khK1 hK1 => ?_
  refine wp_region_lit ?_
  refine l_at hF rfl rfl rfl (x_assign rfl) ?_; clear hF; intro a hF
  refine wpList_nil ?_
  refine hK1 _ _ ?_
  refine wp_seq_k fun khK2 hK2 => ?_
  refine wp_seq_k fun khK3 hK3 => ?_
  refine wp_region_lit ?_
  refine l_at hF rfl rfl rfl (x_move (hF.tmp 0 rfl)) ?_; clear hF; intro a hF
  refine l_at hF rfl rfl rfl (x_len_slice Tryd.underlying37 (hF.tmp 6 rfl)) ?_; clear hF; intro a hF
  refine l_at hF rfl rfl rfl (x_move (hF.tmp 1 rfl)) ?_; clear hF; intro a hF
  refine l_at hF rfl rfl rfl (x_len_slice Tryd.underlying37 (hF.tmp 8 rfl)) ?_; clear hF; intro a hF
  refine l_at hF rfl rfl rfl (x_neq (hF.tmp 7 rfl) (hF.tmp 9 rfl)) ?_; clear hF; intro a hF
  refine wpList_nil ?_
  refine hK3 _ _ ?_
  refine wp_cond_split (hF.tmp 10 rfl) (fun hc10 => ?_) (fun hc10 => ?_)
  · have hk10_1 := hc10; try simp only [Bool.or_eq_true, Bool.and_eq_true, Bool.or_eq_false_iff, Bool.and_eq_false_iff, Bool.not_eq_true', Bool.not_eq_false', decide_eq_true_eq, decide_eq_false_iff_not, Bool.not_true, Bool.not_false] at hc10
    have hz := same_len (xs := xs1) (ys := xs2) (by omega)
    refine wp_seq_k fun khK4 hK4 => ?_
    refine wp_region_lit ?_
    refine l_at hF rfl rfl rfl (x_assign rfl) ?_; clear hF; intro a hF
    refine wpList_nil ?_
    refine hK4 _ _ ?_
    refine wp_ret ?_
    try simp only [Exit.then, Exit.inBlock]
    exact fin_ret hF (res1 hF rfl rfl) ⟨by rw [hz] <;> rfl, hH.mods⟩
  · have hk10_2 := hc10; try simp only [Bool.or_eq_true, Bool.and_eq_true, Bool.or_eq_false_iff, Bool.and_eq_false_iff, Bool.not_eq_true', Bool.not_eq_false', decide_eq_true_eq, decide_eq_false_iff_not, Bool.not_true, Bool.not_false] at hc10
    have hll : (xs1.length : Int) = xs2.length := by omega
    refine wp_skip ?_
    refine hK2 _ _ ?_
    refine wp_seq_k fun khK5 hK5 => ?_
    refine wp_seq_k fun khK6 hK6 => ?_
    refine wp_region_lit ?_
    refine l_at hF rfl rfl rfl (x_assign rfl) ?_; clear hF; intro a hF
    refine wpList_nil ?_
    refine hK6 _ _ ?_
    refine wp_block ?_
    refine wp_loop_ghost (fun n_ a w => ∃ k : Nat, n_ = xs1.length - k ∧ (k ≤ xs1.length) ∧ (xs1.take k = xs2.take k) ∧ Fr 26 a [(0, .slice A1 xs1.length c1), (1, .slice A2 xs2.length c2), (5, .int .i64 (k : Int))] ∧ Hp (fun _ => False) w0 w [(901, .rd_ StE A1 xs1 c1 (fun k => k < w0.heap.size)), (902, .rd_ StE A2 xs2 c2 (fun k => k < w0.heap.size))]) (xs1.length) ?_ ?_
    · exact ⟨0, rfl, by omega, rfl, (((hF.bare.add hF 5 rfl).add hF 1 rfl).add hF 0 rfl), hH.sub _ (sub_cons (sub_cons (sub_nil _) 902 rfl) 901 rfl)⟩
    · rintro _ a w ⟨k, rfl, hq0_0, hq0_1, hF, hH⟩
      refine wp_seq_k fun khK7 hK7 => ?_
      refine wp_seq_k fun khK8 hK8 => ?_
      refine wp_region_lit ?_
      refine l_at hF rfl rfl rfl (x_move (hF.tmp 5 rfl)) ?_; clear hF; intro a hF
      refine l_at hF rfl rfl rfl (x_move (hF.tmp 0 rfl)) ?_; clear hF; intro a hF
      refine l_at hF rfl rfl rfl (x_len_slice Tryd.underlying37 (hF.tmp 12 rfl)) ?_; clear hF; intro a hF
      refine l_at hF rfl rfl rfl (x_lss (hF.tmp 11 rfl) (hF.tmp 13 rfl)) ?_; clear hF; intro a hF
      refine wpList_nil ?_
      refine hK8 _ _ ?_
      refine wp_cond_split (hF.tmp 14 rfl) (fun hc14 => ?_) (fun hc14 => ?_)
      · have hk14_3 := hc14; try simp only [Bool.or_eq_true, Bool.and_eq_true, Bool.or_eq_false_iff, Bool.and_eq_false_iff, Bool.not_eq_true', Bool.not_eq_false', decide_eq_true_eq, decide_eq_false_iff_not, Bool.not_true, Bool.not_false] at hc14
        obtain ⟨hf1_0, hf1_1, hf1_2, hf1_3, hfw1⟩ := rd_st ((hH.rd 901 rfl)) (gst_some (xs := xs1) (i := (k : Int)) (by omega) (by omega))
        have hH := hH.subcels 901 rfl 1499 hfw1 (Rd.inok ((hH.rd 901 rfl)) (by omega) _)
        have hH := hH.subcel 901 rfl 1500 hf1_0 (Rd.inok ((hH.rd 901 rfl)) (by omega) _)
        have hH := hH.subcel 901 rfl 1501 hf1_1 (Rd.inok ((hH.rd 901 rfl)) (by omega) _)
        have hH := hH.subcel 901 rfl 1502 hf1_2 (Rd.inok ((hH.rd 901 rfl)) (by omega) _)
        have hH := hH.subcel 901 rfl 1503 hf1_3 (Rd.inok ((hH.rd 901 rfl)) (by omega) _)
        obtain ⟨hf2_0, hf2_1, hf2_2, hf2_3, hfw2⟩ := rd_st ((hH.rd 902 rfl)) (gst_some (xs := xs2) (i := (k : Int)) (by omega) (by omega))
        have hH := hH.subcels 902 rfl 2499 hfw2 (Rd.inok ((hH.rd 902 rfl)) (by omega) _)
        have hH := hH.subcel 902 rfl 2500 hf2_0 (Rd.inok ((hH.rd 902 rfl)) (by omega) _)
        have hH := hH.subcel 902 rfl 2501 hf2_1 (Rd.inok ((hH.rd 902 rfl)) (by omega) _)
        have hH := hH.subcel 902 rfl 2502 hf2_2 (Rd.inok ((hH.rd 902 rfl)) (by omega) _)
        have hH := hH.subcel 902 rfl 2503 hf2_3 (Rd.inok ((hH.rd 902 rfl)) (by omega) _)
        have hm1 := gst_mem (xs := xs1) (j := k) (by omega)
        have hm2 := gst_mem (xs := xs2) (j := k) (by omega)
        refine wp_skip ?_
        refine hK7 _ _ ?_
        refine wp_seq_k fun khK9 hK9 => ?_
        refine wp_block ?_
        refine wp_seq_k fun khK10 hK10 => ?_
        refine r_start [(901, .rd_ StE A1 xs1 c1 (fun k => k < w0.heap.size)), (902, .rd_ StE A2 xs2 c2 (fun k => k < w0.heap.size)), (1499, .cels (adr A1 (Int.toNat (k : Int) * 4)) #[.int .i64 (gst xs1 (k : Int)).1, .string (strOfNums (gst xs1 (k : Int)).2.1), .string (strOfNums (gst xs1 (k : Int)).2.2.1), .int .i64 (gst xs1 (k : Int)).2.2.2]), (1500, .cel (adr A1 (Int.toNat (k : Int) * 4)) (.int .i64 (gst xs1 (k : Int)).1)), (1501, .cel (adr A1 (Int.toNat (k : Int) * 4 + 1)) (.string (strOfNums (gst xs1 (k : Int)).2.1))), (1502, .cel (adr A1 (Int.toNat (k : Int) * 4 + 2)) (.string (strOfNums (gst xs1 (k : Int)).2.2.1))), (1503, .cel (adr A1 (Int.toNat (k : Int) * 4 + 3)) (.int .i64 (gst xs1 (k : Int)).2.2.2)), (2499, .cels (adr A2 (Int.toNat (k : Int) * 4)) #[.int .i64 (gst xs2 (k : Int)).1, .string (strOfNums (gst xs2 (k : Int)).2.1), .string (strOfNums (gst xs2 (k : Int)).2.2.1), .int .i64 (gst xs2 (k : Int)).2.2.2]), (2500, .cel (adr A2 (Int.toNat (k : Int) * 4)) (.int .i64 (gst xs2 (k : Int)).1)), (2501, .cel (adr A2 (Int.toNat (k : Int) * 4 + 1)) (.string (strOfNums (gst xs2 (k : Int)).2.1))), (2502, .cel (adr A2 (Int.toNat (k : Int) * 4 + 2)) (.string (strOfNums (gst xs2 (k : Int)).2.2.1))), (2503, .cel (adr A2 (Int.toNat (k : Int) * 4 + 3)) (.int .i64 (gst xs2 (k : Int)).2.2.2))] (by kernel_rfl) hH fun hH => ?_
        have hS : SL [(901, .rd_ StE A1 xs1 c1 (fun k => k < w0.heap.size)), (902, .rd_ StE A2 xs2 c2 (fun k => k < w0.heap.size)), (1499, .cels (adr A1 (Int.toNat (k : Int) * 4)) #[.int .i64 (gst xs1 (k : Int)).1, .string (strOfNums (gst xs1 (k : Int)).2.1), .string (strOfNums (gst xs1 (k : Int)).2.2.1), .int .i64 (gst xs1 (k : Int)).2.2.2]), (1500, .cel (adr A1 (Int.toNat (k : Int) * 4)) (.int .i64 (gst xs1 (k : Int)).1)), (1501, .cel (adr A1 (Int.toNat (k : Int) * 4 + 1)) (.string (strOfNums (gst xs1 (k : Int)).2.1))), (1502, .cel (adr A1 (Int.toNat (k : Int) * 4 + 2)) (.string (strOfNums (gst xs1 (k : Int)).2.2.1))), (1503, .cel (adr A1 (Int.toNat (k : Int) * 4 + 3)) (.int .i64 (gst xs1 (k : Int)).2.2.2)), (2499, .cels (adr A2 (Int.toNat (k : Int) * 4)) #[.int .i64 (gst xs2 (k : Int)).1, .string (strOfNums (gst xs2 (k : Int)).2.1), .string (strOfNums (gst xs2 (k : Int)).2.2.1), .int .i64 (gst xs2 (k : Int)).2.2.2]), (2500, .cel (adr A2 (Int.toNat (k : Int) * 4)) (.int .i64 (gst xs2 (k : Int)).1)), (2501, .cel (adr A2 (Int.toNat (k : Int) * 4 + 1)) (.string (strOfNums (gst xs2 (k : Int)).2.1))), (2502, .cel (adr A2 (Int.toNat (k : Int) * 4 + 2)) (.string (strOfNums (gst xs2 (k : Int)).2.2.1))), (2503, .cel (adr A2 (Int.toNat (k : Int) * 4 + 3)) (.int .i64 (gst xs2 (k : Int)).2.2.2))] _ := SL.of hH (sub_cons (sub_cons (sub_cons (sub_cons (sub_cons (sub_cons (sub_cons (sub_cons (sub_cons (sub_cons (sub_cons (sub_cons (sub_nil _) 2503 rfl) 2502 rfl) 2501 rfl) 2500 rfl) 2499 rfl) 1503 rfl) 1502 rfl) 1501 rfl) 1500 rfl) 1499 rfl) 902 rfl) 901 rfl)
        refine r_take 0 hF rfl rfl rfl (by kernel_rfl) (by kernel_rfl) (by kernel_rfl) (fun _ _ _ h => h) rfl hS (fun w hS => x_move (hF.tmp 0 rfl)) rfl ?_; clear hF; intro a hF
        refine r_take 1 hF rfl rfl rfl (by kernel_rfl) (by kernel_rfl) (by kernel_rfl) (fun _ _ _ h => h) rfl hS (fun w hS => x_move (hF.tmp 5 rfl)) rfl ?_; clear hF; intro a hF
        refine r_take 2 hF rfl rfl rfl (by kernel_rfl) (by kernel_rfl) (by kernel_rfl) (fun _ _ _ h => h) rfl hS (fun w hS => x_iaddr_A Tryd.underlying37 ty53 ((hH.rd 901 rfl)) (hF.tmp 17 rfl) (hF.tmp 18 rfl) (by omega) (by omega) _) rfl ?_; clear hF; intro a hF
        refine r_take 3 hF rfl rfl rfl (by kernel_rfl) (by kernel_rfl) (by kernel_rfl) (fun _ _ _ h => h) rfl hS (fun w hS => x_loadn ty53 (hF.tmp 19 rfl) rfl (hS 1499 _ rfl)) rfl ?_; clear hF; intro a hF
        refine r_take 4 hF rfl rfl rfl (by kernel_rfl) (by kernel_rfl) (by kernel_rfl) (fun _ _ _ h => h) rfl hS (fun w hS => x_move (hF.tmp 1 rfl)) rfl ?_; clear hF; intro a hF
        refine r_take 5 hF rfl rfl rfl (by kernel_rfl) (by kernel_rfl) (by kernel_rfl) (fun _ _ _ h => h) rfl hS (fun w hS => x_move (hF.tmp 5 rfl)) rfl ?_; clear hF; intro a hF
        refine r_take 6 hF rfl rfl rfl (by kernel_rfl) (by kernel_rfl) (by kernel_rfl) (fun _ _ _ h => h) rfl hS (fun w hS => x_iaddr_A Tryd.underlying37 ty53 ((hH.rd 902 rfl)) (hF.tmp 21 rfl) (hF.tmp 22 rfl) (by omega) (by omega) _) rfl ?_; clear hF; intro a hF
        refine r_take 7 hF rfl rfl rfl (by kernel_rfl) (by kernel_rfl) (by kernel_rfl) (fun _ _ _ h => h) rfl hS (fun w hS => x_loadn ty53 (hF.tmp 23 rfl) rfl (hS 2499 _ rfl)) rfl ?_; clear hF; intro a hF
        refine r_take 8 hF rfl rfl rfl (by kernel_rfl) (by kernel_rfl) (by kernel_rfl) (fun _ _ _ h => h) rfl hS (fun w hS => st_nes (x := (gst xs1 (k : Int))) (y := (gst xs2 (k : Int))) (hb1 _ hm1).1 (hb2 _ hm2).1 (hb1 _ hm1).2.1 (hb2 _ hm2).2.1 (hF.tmp 20 rfl) (hF.tmp 24 rfl)) rfl ?_; clear hF; intro a hF
        refine r_end (by kernel_rfl) ?_; clear hS
        refine hK10 _ _ ?_
        refine wp_cond_split (hF.tmp 25 rfl) (fun hc25 => ?_) (fun hc25 => ?_)
        · have hk25_4 := hc25; try simp only [Bool.or_eq_true, Bool.and_eq_true, Bool.or_eq_false_iff, Bool.and_eq_false_iff, Bool.not_eq_true', Bool.not_eq_false', decide_eq_true_eq, decide_eq_false_iff_not, Bool.not_true, Bool.not_false] at hc25
          have hz := same_at (xs := xs1) (ys := xs2) (fun l => gst l (k : Int)) hc25
          refine wp_seq_k fun khK11 hK11 => ?_
          refine wp_region_lit ?_
          refine l_at hF rfl rfl rfl (x_assign rfl) ?_; clear hF; intro a hF
          refine wpList_nil ?_
          refine hK11 _ _ ?_
          refine wp_ret ?_
          try simp only [Exit.then, Exit.inBlock]
          exact fin_ret hF (res1 hF rfl rfl) ⟨by rw [hz] <;> rfl, hH.mods⟩
        · have hk25_5 := hc25; try simp only [Bool.or_eq_true, Bool.and_eq_true, Bool.or_eq_false_iff, Bool.and_eq_false_iff, Bool.not_eq_true', Bool.not_eq_false', decide_eq_true_eq, decide_eq_false_iff_not, Bool.not_true, Bool.not_false] at hc25
          refine wp_skip ?_
          refine hK9 _ _ ?_
          refine wp_region_lit ?_
          refine l_at hF rfl rfl rfl (x_move (hF.tmp 5 rfl)) ?_; clear hF; intro a hF
          refine l_at hF rfl rfl rfl (x_add (hF.tmp 15 rfl) rfl (w64 (by omega) (by omega))) ?_; clear hF; intro a hF
          refine l_at hF rfl rfl rfl (x_assign (hF.tmp 16 rfl)) ?_; clear hF; intro a hF
          refine wpList_nil ?_
          exact ⟨_, by omega, ⟨k + 1, rfl, by omega, same_step (gst_some (xs := xs1) (i := (k : Int)) (by omega) (by omega)) (gst_some (xs := xs2) (i := (k : Int)) (by omega) (by omega)) hq0_1 hc25, (((hF.bare.add hF 5 rfl).add hF 1 rfl).add hF 0 rfl), hH.sub _ (sub_cons (sub_cons (sub_nil _) 902 rfl) 901 rfl)⟩⟩
      · have hk14_6 := hc14; try simp only [Bool.or_eq_true, Bool.and_eq_true, Bool.or_eq_false_iff, Bool.and_eq_false_iff, Bool.not_eq_true', Bool.not_eq_false', decide_eq_true_eq, decide_eq_false_iff_not, Bool.not_true, Bool.not_false] at hc14
        have hz := same_yes (xs := xs1) (ys := xs2) (k := k) (by omega) hll hq0_1
        refine wp_exit ?_
        refine hK5 _ _ ?_
        refine wp_seq_k fun khK12 hK12 => ?_
        refine wp_region_lit ?_
        refine l_at hF rfl rfl rfl (x_assign rfl) ?_; clear hF; intro a hF
        refine wpList_nil ?_
        refine hK12 _ _ ?_
        refine wp_ret ?_
        try simp only [Exit.then, Exit.inBlock]
        exact fin_ret hF (res1 hF rfl rfl) ⟨by rw [hz] <;> rfl, hH.mods⟩

set_option maxRecDepth 100000 in
set_option maxHeartbeats 1000000 in
theorem r10same_calls (w0 : World) {p q : TimerD} {okp0 : Nat → Prop} {Ap0 : Option Addr} {cp0 : Nat} (hrp0 : Rd StE w0 okp0 Ap0 p.steps cp0) {okq0 : Nat → Prop} {Aq0 : Option Addr} {cq0 : Nat} (hrq0 : Rd StE w0 okq0 Aq0 q.steps cq0) (ha : TimerB p) (hb : TimerB q) : Calls Tryd.prog 88 #[.agg #[.string (strOfNums p.name), .int .i64 p.ver, .int .u64 p.tick, .int .u64 p.every, .slice Ap0 p.steps.length cp0], .agg #[.string (strOfNums q.name), .int .i64 q.ver, .int .u64 q.tick, .int .u64 q.every, .slice Aq0 q.steps.length cq0]] w0 fun e w' => e = .returned (.bool (decide (p = q))) ∧ Mods (fun _ => False) w0 w' := by
  refine calls_of_wp Tryd.func88 rfl ?_
  have hF := Fr.enter #[.agg #[.string (strOfNums p.name), .int .i64 p.ver, .int .u64 p.tick, .int .u64 p.every, .slice Ap0 p.steps.length cp0], .agg #[.string (strOfNums q.name), .int .i64 q.ver, .int .u64 q.tick, .int .u64 q.every, .slice Aq0 q.steps.length cq0]] 40 (slotsOf [.agg #[.string (strOfNums p.name), .int .i64 p.ver, .int .u64 p.tick, .int .u64 p.every, .slice Ap0 p.steps.length cp0], .agg #[.string (strOfNums q.name), .int .i64 q.ver, .int .u64 q.tick, .int .u64 q.every, .slice Aq0 q.steps.length cq0]] 0) (Nat.le_of_ble_eq_true rfl) (fun i v h => by have h2 := (get_slotsOf _ 0 i v h).2; simpa only [List.getElem?_toArray, Nat.sub_zero] using h2)
  have hH := Hp.nil (fun _ => False) w0
  rw [Tryd.ntmps88]
  revert hF; generalize (⟨(#[.agg #[.string (strOfNums p.name), .int .i64 p.ver, .int .u64 p.tick, .int .u64 p.every, .slice Ap0 p.steps.length cp0], .agg #[.string (strOfNums q.name), .int .i64 q.ver, .int .u64 q.tick, .int .u64 q.every, .slice Aq0 q.steps.length cq0]] : Array Value) ++ Array.replicate (40 - (#[.agg #[.string (strOfNums p.name), .int .i64 p.ver, .int .u64 p.tick, .int .u64 p.every, .slice Ap0 p.steps.length cp0], .agg #[.string (strOfNums q.name), .int .i64 q.ver, .int .u64 q.tick, .int .u64 q.every, .slice Aq0 q.steps.length cq0]] : Array Value).size) undef, []⟩ : Act) = a; intro hF
  have hH := hH.arg 900 hrp0.all (fun _ h => ⟨h, fun h => h⟩)
  have hlep0 := hrp0.le; unfold maxLen at hlep0
  have hH := hH.arg 950 hrq0.all (fun _ h => ⟨h, fun h => h⟩)
  have hleq0 := hrq0.le; unfold maxLen at hleq0
  refine wp_seq_k fun khK1 hK1 => ?_
  refine wp_region_lit ?_
  refine wpList_plain rfl fun K hK => ?_
  refine w_box 2 hF hH rfl (hF.tmp 0 rfl) ?_
  clear hF hH; intro a w b2 hF hH
  refine hK _ _ ?_; clear hK K
  refine wpList_plain rfl fun K hK => ?_
  refine w_box 3 hF hH rfl (hF.tmp 1 rfl) ?_
  clear hF hH; intro a w b3 hF hH
  refine hK _ _ ?_; clear hK K
  refine l_at hF rfl rfl rfl (x_assign rfl) ?_; clear hF; intro a hF
  refine wpList_nil ?_
  refine hK1 _ _ ?_
  refine wp_seq_k fun khK2 hK2 => ?_
  refine wp_region_lit ?_
  refine l_at hF rfl rfl rfl (x_faddr Tryd.underlying39 rfl ty37 (by decide) (hF.tmp 2 rfl) rfl) ?_; clear hF; intro a hF
  refine l_at hF rfl rfl rfl (x_load1 ty37 (hF.tmp 6 rfl) (blk_cell (hH.at 2 rfl) 4 rfl)) ?_; clear hF; intro a hF
  refine l_at hF rfl rfl rfl (x_faddr Tryd.underlying39 rfl ty37 (by decide) (hF.tmp 3 rfl) rfl) ?_; clear hF; intro a hF
  refine l_at hF rfl rfl rfl (x_load1 ty37 (hF.tmp 8 rfl) (blk_cell (hH.at 3 rfl) 4 rfl)) ?_; clear hF; intro a hF
  refine wpList_plain rfl fun K hK => ?_
  refine w_call hF (x_enter Tryd.func105 (by kernel_rfl) rfl (by simp only [List.map_toArray, List.map_cons, List.map_nil, hF.tmp 7 rfl, hF.tmp 9 rfl] <;> rfl)) (r9same_calls _ ((hH.rd 900 rfl)) ((hH.rd 950 rfl)) ha.steps hb.steps) rfl rfl ?_
  rintro _ w ⟨rfl, hm_⟩; refine ⟨_, rfl, ?_⟩; clear hF; intro a hF; have hH := hH.same hm_
  refine hK _ _ ?_; clear hK K
  refine l_at hF rfl rfl rfl (x_assign (hF.tmp 10 rfl)) ?_; clear hF; intro a hF
  refine wpList_nil ?_
  refine hK2 _ _ ?_
  refine wp_seq_k fun khK3 hK3 => ?_
  refine wp_region_lit ?_
  refine l_at hF rfl rfl rfl (x_faddr Tryd.underlying39 rfl ty9 (by decide) (hF.tmp 2 rfl) rfl) ?_; clear hF; intro a hF
  refine l_at hF rfl rfl rfl (x_load1 ty9 (hF.tmp 11 rfl) (blk_cell (hH.at 2 rfl) 0 rfl)) ?_; clear hF; intro a hF
  refine l_at hF rfl rfl rfl (x_faddr Tryd.underlying39 rfl ty9 (by decide) (hF.tmp 3 rfl) rfl) ?_; clear hF; intro a hF
  refine l_at hF rfl rfl rfl (x_load1 ty9 (hF.tmp 13 rfl) (blk_cell (hH.at 3 rfl) 0 rfl)) ?_; clear hF; intro a hF
  refine l_at hF rfl rfl rfl (x_eqn (xs := p.name) (ys := q.name) (hF.tmp 12 rfl) (hF.tmp 14 rfl) ha.name hb.name) ?_; clear hF; intro a hF
  refine l_at hF rfl rfl rfl (x_move (hF.tmp 15 rfl)) ?_; clear hF; intro a hF
  refine split_bool hF 16 rfl (fun hb16 => ?_) (fun hb16 => ?_)
  · have hc16 := hb16; try simp only [Bool.or_eq_true, Bool.and_eq_true, Bool.or_eq_false_iff, Bool.and_eq_false_iff, Bool.not_eq_true', Bool.not_eq_false', decide_eq_true_eq, decide_eq_false_iff_not, Bool.not_true, Bool.not_false] at hc16
    refine l_atg hF ((wanted_of hF rfl rfl rfl rfl).trans (by rw [hb16]; rfl)) rfl rfl (x_faddr Tryd.underlying39 rfl ty3 (by decide) (hF.tmp 2 rfl) rfl) ?_; clear hF; intro a hF
    refine l_atg hF ((wanted_of hF rfl rfl rfl rfl).trans (by rw [hb16]; rfl)) rfl rfl (x_load1 ty3 (hF.tmp 17 rfl) (blk_cell (hH.at 2 rfl) 1 rfl)) ?_; clear hF; intro a hF
    refine l_atg hF ((wanted_of hF rfl rfl rfl rfl).trans (by rw [hb16]; rfl)) rfl rfl (x_faddr Tryd.underlying39 rfl ty3 (by decide) (hF.tmp 3 rfl) rfl) ?_; clear hF; intro a hF
    refine l_atg hF ((wanted_of hF rfl rfl rfl rfl).trans (by rw [hb16]; rfl)) rfl rfl (x_load1 ty3 (hF.tmp 19 rfl) (blk_cell (hH.at 3 rfl) 1 rfl)) ?_; clear hF; intro a hF
    refine l_atg hF ((wanted_of hF rfl rfl rfl rfl).trans (by rw [hb16]; rfl)) rfl rfl (x_eql (hF.tmp 18 rfl) (hF.tmp 20 rfl)) ?_; clear hF; intro a hF
    refine l_at hF rfl rfl rfl (x_pickT (hF.tmp 16 rfl) hb16 (hF.tmp 21 rfl)) ?_; clear hF; intro a hF
    refine l_at hF rfl rfl rfl (x_move (hF.tmp 22 rfl)) ?_; clear hF; intro a hF
    refine split_bool hF 23 rfl (fun hb23 => ?_) (fun hb23 => ?_)
    · have hc23 := hb23; try simp only [Bool.or_eq_true, Bool.and_eq_true, Bool.or_eq_false_iff, Bool.and_eq_false_iff, Bool.not_eq_true', Bool.not_eq_false', decide_eq_true_eq, decide_eq_false_iff_not, Bool.not_true, Bool.not_false] at hc23
      refine l_atg hF ((wanted_of hF rfl rfl rfl rfl).trans (by rw [hb23]; rfl)) rfl rfl (x_faddr Tryd.underlying39 rfl ty34 (by decide) (hF.tmp 2 rfl) rfl) ?_; clear hF; intro a hF
      refine l_atg hF ((wanted_of hF rfl rfl rfl rfl).trans (by rw [hb23]; rfl)) rfl rfl (x_load1 ty34 (hF.tmp 24 rfl) (blk_cell (hH.at 2 rfl) 2 rfl)) ?_; clear hF; intro a hF
      refine l_atg hF ((wanted_of hF rfl rfl rfl rfl).trans (by rw [hb23]; rfl)) rfl rfl (x_faddr Tryd.underlying39 rfl ty34 (by decide) (hF.tmp 3 rfl) rfl) ?_; clear hF; intro a hF
      refine l_atg hF ((wanted_of hF rfl rfl rfl rfl).trans (by rw [hb23]; rfl)) rfl rfl (x_load1 ty34 (hF.tmp 26 rfl) (blk_cell (hH.at 3 rfl) 2 rfl)) ?_; clear hF; intro a hF
      refine l_atg hF ((wanted_of hF rfl rfl rfl rfl).trans (by rw [hb23]; rfl)) rfl rfl (x_eql (hF.tmp 25 rfl) (hF.tmp 27 rfl)) ?_; clear hF; intro a hF
      refine l_at hF rfl rfl rfl (x_pickT (hF.tmp 23 rfl) hb23 (hF.tmp 28 rfl)) ?_; clear hF; intro a hF
      refine l_at hF rfl rfl rfl (x_move (hF.tmp 29 rfl)) ?_; clear hF; intro a hF
      refine split_bool hF 30 rfl (fun hb30 => ?_) (fun hb30 => ?_)
      · have hc30 := hb30; try simp only [Bool.or_eq_true, Bool.and_eq_true, Bool.or_eq_false_iff, Bool.and_eq_false_iff, Bool.not_eq_true', Bool.not_eq_false', decide_eq_true_eq, decide_eq_false_iff_not, Bool.not_true, Bool.not_false] at hc30
        refine l_atg hF ((wanted_of hF rfl rfl rfl rfl).trans (by rw [hb30]; rfl)) rfl rfl (x_faddr Tryd.underlying39 rfl ty34 (by decide) (hF.tmp 2 rfl) rfl) ?_; clear hF; intro a hF
        refine l_atg hF ((wanted_of hF rfl rfl rfl rfl).trans (by rw [hb30]; rfl)) rfl rfl (x_load1 ty34 (hF.tmp 31 rfl) (blk_cell (hH.at 2 rfl) 3 rfl)) ?_; clear hF; intro a hF
        refine l_atg hF ((wanted_of hF rfl rfl rfl rfl).trans (by rw [hb30]; rfl)) rfl rfl (x_faddr Tryd.underlying39 rfl ty34 (by decide) (hF.tmp 3 rfl) rfl) ?_; clear hF; intro a hF
        refine l_atg hF ((wanted_of hF rfl rfl rfl rfl).trans (by rw [hb30]; rfl)) rfl rfl (x_load1 ty34 (hF.tmp 33 rfl) (blk_cell (hH.at 3 rfl) 3 rfl)) ?_; clear hF; intro a hF
        refine l_atg hF ((wanted_of hF rfl rfl rfl rfl).trans (by rw [hb30]; rfl)) rfl rfl (x_eql (hF.tmp 32 rfl) (hF.tmp 34 rfl)) ?_; clear hF; intro a hF
        refine l_at hF rfl rfl rfl (x_pickT (hF.tmp 30 rfl) hb30 (hF.tmp 35 rfl)) ?_; clear hF; intro a hF
        refine l_at hF rfl rfl rfl (x_move (hF.tmp 36 rfl)) ?_; clear hF; intro a hF
        refine split_bool hF 37 rfl (fun hb37 => ?_) (fun hb37 => ?_)
        · have hc37 := hb37; try simp only [Bool.or_eq_true, Bool.and_eq_true, Bool.or_eq_false_iff, Bool.and_eq_false_iff, Bool.not_eq_true', Bool.not_eq_false', decide_eq_true_eq, decide_eq_false_iff_not, Bool.not_true, Bool.not_false] at hc37
          refine l_atg hF ((wanted_of hF rfl rfl rfl rfl).trans (by rw [hb37]; rfl)) rfl rfl (x_move (hF.tmp 5 rfl)) ?_; clear hF; intro a hF
          refine l_at hF rfl rfl rfl (x_pickT (hF.tmp 37 rfl) hb37 (hF.tmp 38 rfl)) ?_; clear hF; intro a hF
          refine l_at hF rfl rfl rfl (x_assign (hF.tmp 39 rfl)) ?_; clear hF; intro a hF
          refine wpList_nil ?_
          refine hK3 _ _ ?_
          refine wp_ret ?_
          try simp only [Exit.then, Exit.inBlock]
          have hv : (decide (p.steps = q.steps)) = decide (p = q) := by rw [Bool.eq_iff_iff]; simp only [decide_eq_true_iff, tim_same]; first | (simp [hc16, hc23, hc30, hc37]; done) | (simp [hc16, hc23, hc30, hc37]; omega)
          exact fin_ret hF (res1 (v := .bool (decide (p.steps = q.steps))) hF rfl rfl) ⟨by rw [hv], hH.mods⟩
        · have hc37 := hb37; try simp only [Bool.or_eq_true, Bool.and_eq_true, Bool.or_eq_false_iff, Bool.and_eq_false_iff, Bool.not_eq_true', Bool.not_eq_false', decide_eq_true_eq, decide_eq_false_iff_not, Bool.not_true, Bool.not_false] at hc37
          refine l_offg hF ((wanted_of hF rfl rfl rfl rfl).trans (by rw [hb37]; rfl)) rfl rfl ?_; clear hF; intro a hF
          refine l_at hF rfl rfl rfl (x_pickF (hF.tmp 37 rfl) hb37 rfl) ?_; clear hF; intro a hF
          refine l_at hF rfl rfl rfl (x_assign (hF.tmp 39 rfl)) ?_; clear hF; intro a hF
          refine wpList_nil ?_
          refine hK3 _ _ ?_
          refine wp_ret ?_
          try simp only [Exit.then, Exit.inBlock]
          have hv : false = decide (p = q) := by rw [Bool.eq_iff_iff]; simp only [decide_eq_true_iff, tim_same]; first | (simp [hc16, hc23, hc30, hc37]; done) | (simp [hc16, hc23, hc30, hc37]; omega)
          exact fin_ret hF (res1 (v := .bool false) hF rfl rfl) ⟨by rw [hv], hH.mods⟩
      · have hc30 := hb30; try simp only [Bool.or_eq_true, Bool.and_eq_true, Bool.or_eq_false_iff, Bool.and_eq_false_iff, Bool.not_eq_true', Bool.not_eq_false', decide_eq_true_eq, decide_eq_false_iff_not, Bool.not_true, Bool.not_false] at hc30
        refine l_offg hF ((wanted_of hF rfl rfl rfl rfl).trans (by rw [hb30]; rfl)) rfl rfl ?_; clear hF; intro a hF
        refine l_offg hF ((wanted_of hF rfl rfl rfl rfl).trans (by rw [hb30]; rfl)) rfl rfl ?_; clear hF; intro a hF
        refine l_offg hF ((wanted_of hF rfl rfl rfl rfl).trans (by rw [hb30]; rfl)) rfl rfl ?_; clear hF; intro a hF
        refine l_offg hF ((wanted_of hF rfl rfl rfl rfl).trans (by rw [hb30]; rfl)) rfl rfl ?_; clear hF; intro a hF
        refine l_offg hF ((wanted_of hF rfl rfl rfl rfl).trans (by rw [hb30]; rfl)) rfl rfl ?_; clear hF; intro a hF
        refine l_at hF rfl rfl rfl (x_pickF (hF.tmp 30 rfl) hb30 rfl) ?_; clear hF; intro a hF
        refine l_at hF rfl rfl rfl (x_move (hF.tmp 36 rfl)) ?_; clear hF; intro a hF
        refine l_offg hF ((wanted_of hF rfl rfl rfl rfl).trans rfl) rfl rfl ?_; clear hF; intro a hF
        refine l_at hF rfl rfl rfl (x_pickF (hF.tmp 37 rfl) rfl rfl) ?_; clear hF; intro a hF
        refine l_at hF rfl rfl rfl (x_assign (hF.tmp 39 rfl)) ?_; clear hF; intro a hF
        refine wpList_nil ?_
        refine hK3 _ _ ?_
        refine wp_ret ?_
        try simp only [Exit.then, Exit.inBlock]
        have hv : false = decide (p = q) := by rw [Bool.eq_iff_iff]; simp only [decide_eq_true_iff, tim_same]; first | (simp [hc16, hc23, hc30]; done) | (simp [hc16, hc23, hc30]; omega)
        exact fin_ret hF (res1 (v := .bool false) hF rfl rfl) ⟨by rw [hv], hH.mods⟩
    · have hc23 := hb23; try simp only [Bool.or_eq_true, Bool.and_eq_true, Bool.or_eq_false_iff, Bool.and_eq_false_iff, Bool.not_eq_true', Bool.not_eq_false', decide_eq_true_eq, decide_eq_false_iff_not, Bool.not_true, Bool.not_false] at hc23
      refine l_offg hF ((wanted_of hF rfl rfl rfl rfl).trans (by rw [hb23]; rfl)) rfl rfl ?_; clear hF; intro a hF
      refine l_offg hF ((wanted_of hF rfl rfl rfl rfl).trans (by rw [hb23]; rfl)) rfl rfl ?_; clear hF; intro a hF
      refine l_offg hF ((wanted_of hF rfl rfl rfl rfl).trans (by rw [hb23]; rfl)) rfl rfl ?_; clear hF; intro a hF
      refine l_offg hF ((wanted_of hF rfl rfl rfl rfl).trans (by rw [hb23]; rfl)) rfl rfl ?_; clear hF; intro a hF
      refine l_offg hF ((wanted_of hF rfl rfl rfl rfl).trans (by rw [hb23]; rfl)) rfl rfl ?_; clear hF; intro a hF
      refine l_at hF rfl rfl rfl (x_pickF (hF.tmp 23 rfl) hb23 rfl) ?_; clear hF; intro a hF
      refine l_at hF rfl rfl rfl (x_move (hF.tmp 29 rfl)) ?_; clear hF; intro a hF
      refine l_offg hF ((wanted_of hF rfl rfl rfl rfl).trans rfl) rfl rfl ?_; clear hF; intro a hF
      refine l_offg hF ((wanted_of hF rfl rfl rfl rfl).trans rfl) rfl rfl ?_; clear hF; intro a hF
      refine l_offg hF ((wanted_of hF rfl rfl rfl rfl).trans rfl) rfl rfl ?_; clear hF; intro a hF
      refine l_offg hF ((wanted_of hF rfl rfl rfl rfl).trans rfl) rfl rfl ?_; clear hF; intro a hF
      refine l_offg hF ((wanted_of hF rfl rfl rfl rfl).trans rfl) rfl rfl ?_; clear hF; intro a hF
      refine l_at hF rfl rfl rfl (x_pickF (hF.tmp 30 rfl) rfl rfl) ?_; clear hF; intro a hF
      refine l_at hF rfl rfl rfl (x_move (hF.tmp 36 rfl)) ?_; clear hF; intro a hF
      refine l_offg hF ((wanted_of hF rfl rfl rfl rfl).trans rfl) rfl rfl ?_; clear hF; intro a hF
      refine l_at hF rfl rfl rfl (x_pickF (hF.tmp 37 rfl) rfl rfl) ?_; clear hF; intro a hF
      refine l_at hF rfl rfl rfl (x_assign (hF.tmp 39 rfl)) ?_; clear hF; intro a hF
      refine wpList_nil ?_
      refine hK3 _ _ ?_
      refine wp_ret ?_
      try simp only [Exit.then, Exit.inBlock]
      have hv : false = decide (p = q) := by rw [Bool.eq_iff_iff]; simp only [decide_eq_true_iff, tim_same]; first | (simp [hc16, hc23]; done) | (simp [hc16, hc23]; omega)
      exact fin_ret hF (res1 (v := .bool false) hF rfl rfl) ⟨by rw [hv], hH.mods⟩
  · have hc16 := hb16; try simp only [Bool.or_eq_true, Bool.and_eq_true, Bool.or_eq_false_iff, Bool.and_eq_false_iff, Bool.not_eq_true', Bool.not_eq_false', decide_eq_true_eq, decide_eq_false_iff_not, Bool.not_true, Bool.not_false] at hc16
    refine l_offg hF ((wanted_of hF rfl rfl rfl rfl).trans (by rw [hb16]; rfl)) rfl rfl ?_; clear hF; intro a hF
    refine l_offg hF ((wanted_of hF rfl rfl rfl rfl).trans (by rw [hb16]; rfl)) rfl rfl ?_; clear hF; intro a hF
    refine l_offg hF ((wanted_of hF rfl rfl rfl rfl).trans (by rw [hb16]; rfl)) rfl rfl ?_; clear hF; intro a hF
    refine l_offg hF ((wanted_of hF rfl rfl rfl rfl).trans (by rw [hb16]; rfl)) rfl rfl ?_; clear hF; intro a hF
    refine l_offg hF ((wanted_of hF rfl rfl rfl rfl).trans (by rw [hb16]; rfl)) rfl rfl ?_; clear hF; intro a hF
    refine l_at hF rfl rfl rfl (x_pickF (hF.tmp 16 rfl) hb16 rfl) ?_; clear hF; intro a hF
    refine l_at hF rfl rfl rfl (x_move (hF.tmp 22 rfl)) ?_; clear hF; intro a hF
    refine l_offg hF ((wanted_of hF rfl rfl rfl rfl).trans rfl) rfl rfl ?_; clear hF; intro a hF
    refine l_offg hF ((wanted_of hF rfl rfl rfl rfl).trans rfl) rfl rfl ?_; clear hF; intro a hF
    refine l_offg hF ((wanted_of hF rfl rfl rfl rfl).trans rfl) rfl rfl ?_; clear hF; intro a hF
    refine l_offg hF ((wanted_of hF rfl rfl rfl rfl).trans rfl) rfl rfl ?_; clear hF; intro a hF
    refine l_offg hF ((wanted_of hF rfl rfl rfl rfl).trans rfl) rfl rfl ?_; clear hF; intro a hF
    refine l_at hF rfl rfl rfl (x_pickF (hF.tmp 23 rfl) rfl rfl) ?_; clear hF; intro a hF
    refine l_at hF rfl rfl rfl (x_move (hF.tmp 29 rfl)) ?_; clear hF; intro a hF
    refine l_offg hF ((wanted_of hF rfl rfl rfl rfl).trans rfl) rfl rfl ?_; clear hF; intro a hF
    refine l_offg hF ((wanted_of hF rfl rfl rfl rfl).trans rfl) rfl rfl ?_; clear hF; intro a hF
    refine l_offg hF ((wanted_of hF rfl rfl rfl rfl).trans rfl) rfl rfl ?_; clear hF; intro a hF
    refine l_offg hF ((wanted_of hF rfl rfl rfl rfl).trans rfl) rfl rfl ?_; clear hF; intro a hF
    refine l_offg hF ((wanted_of hF rfl rfl rfl rfl).trans rfl) rfl rfl ?_; clear hF; intro a hF
    refine l_at hF rfl rfl rfl (x_pickF (hF.tmp 30 rfl) rfl rfl) ?_; clear hF; intro a hF
    refine l_at hF rfl rfl rfl (x_move (hF.tmp 36 rfl)) ?_; clear hF; intro a hF
    refine l_offg hF ((wanted_of hF rfl rfl rfl rfl).trans rfl) rfl rfl ?_; clear hF; intro a hF
    refine l_at hF rfl rfl rfl (x_pickF (hF.tmp 37 rfl) rfl rfl) ?_; clear hF; intro a hF
    refine l_at hF rfl rfl rfl (x_assign (hF.tmp 39 rfl)) ?_; clear hF; intro a hF
    refine wpList_nil ?_
    refine hK3 _ _ ?_
    refine wp_ret ?_
    try simp only [Exit.then, Exit.inBlock]
    have hv : false = decide (p = q) := by rw [Bool.eq_iff_iff]; simp only [decide_eq_true_iff, tim_same]; first | (simp [hc16]; done) | (simp [hc16]; omega)
    exact fin_ret hF (res1 (v := .bool false) hF rfl rfl) ⟨by rw [hv], hH.mods⟩

set_option maxRecDepth 100000 in
set_option maxHeartbeats 1000000 in
theorem sameO_calls (w0 : World) {p q : OpD} {okp0 : Nat → Prop} {Ap0 : Option Addr} {cp0 : Nat} (hrp0 : Rd StE w0 okp0 Ap0 p.timer.steps cp0) {okq0 : Nat → Prop} {Aq0 : Option Addr} {cq0 : Nat} (hrq0 : Rd StE w0 okq0 Aq0 q.timer.steps cq0) (ha : OpB p) (hb : OpB q) : Calls Tryd.prog 57 #[.agg #[.int .i64 p.kind, .string (strOfNums p.key), .int .i64 p.step.1, .string (strOfNums p.step.2.1), .string (strOfNums p.step.2.2.1), .int .i64 p.step.2.2.2, .string (strOfNums p.timer.name), .int .i64 p.timer.ver, .int .u64 p.timer.tick, .int .u64 p.timer.every, .slice Ap0 p.timer.steps.length cp0], .agg #[.int .i64 q.kind, .string (strOfNums q.key), .int .i64 q.step.1, .string (strOfNums q.step.2.1), .string (strOfNums q.step.2.2.1), .int .i64 q.step.2.2.2, .string (strOfNums q.timer.name), .int .i64 q.timer.ver, .int .u64 q.timer.tick, .int .u64 q.timer.every, .slice Aq0 q.timer.steps.length cq0]] w0 fun e w' => e = .returned (.bool (decide (p = q))) ∧ Mods (fun _ => False) w0 w' := by
  refine calls_of_wp Tryd.func57 rfl ?_
  have hF := Fr.enter #[.agg #[.int .i64 p.kind, .string (strOfNums p.key), .int .i64 p.step.1, .string (strOfNums p.step.2.1), .string (strOfNums p.step.2.2.1), .int .i64 p.step.2.2.2, .string (strOfNums p.timer.name), .int .i64 p.timer.ver, .int .u64 p.timer.tick, .int .u64 p.timer.every, .slice Ap0 p.timer.steps.length cp0], .agg #[.int .i64 q.kind, .string (strOfNums q.key), .int .i64 q.step.1, .string (strOfNums q.step.2.1), .string (strOfNums q.step.2.2.1), .int .i64 q.step.2.2.2, .string (strOfNums q.timer.name), .int .i64 q.timer.ver, .int .u64 q.timer.tick, .int .u64 q.timer.every, .slice Aq0 q.timer.steps.length cq0]] 33 (slotsOf [.agg #[.int .i64 p.kind, .string (strOfNums p.key), .int .i64 p.step.1, .string (strOfNums p.step.2.1), .string (strOfNums p.step.2.2.1), .int .i64 p.step.2.2.2, .string (strOfNums p.timer.name), .int .i64 p.timer.ver, .int .u64 p.timer.tick, .int .u64 p.timer.every, .slice Ap0 p.timer.steps.length cp0], .agg #[.int .i64 q.kind, .string (strOfNums q.key), .int .i64 q.step.1, .string (strOfNums q.step.2.1), .string (strOfNums q.step.2.2.1), .int .i64 q.step.2.2.2, .string (strOfNums q.timer.name), .int .i64 q.timer.ver, .int .u64 q.timer.tick, .int .u64 q.timer.every, .slice Aq0 q.timer.steps.length cq0]] 0) (Nat.le_of_ble_eq_true rfl) (fun i v h => by have h2 := (get_slotsOf _ 0 i v h).2; simpa only [List.getElem?_toArray, Nat.sub_zero] using h2)
  have hH := Hp.nil (fun _ => False) w0
  rw [Tryd.ntmps57]
  revert hF; generalize (⟨(#[.agg #[.int .i64 p.kind, .string (strOfNums p.key), .int .i64 p.step.1, .string (strOfNums p.step.2.1), .string (strOfNums p.step.2.2.1), .int .i64 p.step.2.2.2, .string (strOfNums p.timer.name), .int .i64 p.timer.ver, .int .u64 p.timer.tick, .int .u64 p.timer.every, .slice Ap0 p.timer.steps.length cp0], .agg #[.int .i64 q.kind, .string (strOfNums q.key), .int .i64 q.step.1, .string (strOfNums q.step.2.1), .string (strOfNums q.step.2.2.1), .int .i64 q.step.2.2.2, .string (strOfNums q.timer.name), .int .i64 q.timer.ver, .int .u64 q.timer.tick, .int .u64 q.timer.every, .slice Aq0 q.timer.steps.length cq0]] : Array Value) ++ Array.replicate (33 - (#[.agg #[.int .i64 p.kind, .string (strOfNums p.key), .int .i64 p.step.1, .string (strOfNums p.step.2.1), .string (strOfNums p.step.2.2.1), .int .i64 p.step.2.2.2, .string (strOfNums p.timer.name), .int .i64 p.timer.ver, .int .u64 p.timer.tick, .int .u64 p.timer.every, .slice Ap0 p.timer.steps.length cp0], .agg #[.int .i64 q.kind, .string (strOfNums q.key), .int .i64 q.step.1, .string (strOfNums q.step.2.1), .string (strOfNums q.step.2.2.1), .int .i64 q.step.2.2.2, .string (strOfNums q.timer.name), .int .i64 q.timer.ver, .int .u64 q.timer.tick, .int .u64 q.timer.every, .slice Aq0 q.timer.steps.length cq0]] : Array Value).size) undef, []⟩ : Act) = a; intro hF
  have hH := hH.arg 900 hrp0.all (fun _ h => ⟨h, fun h => h⟩)
  have hlep0 := hrp0.le; unfold maxLen at hlep0
  have hH := hH.arg 950 hrq0.all (fun _ h => ⟨h, fun h => h⟩)
  have hleq0 := hrq0.le; unfold maxLen at hleq0
  refine wp_seq_k fun khK1 hK1 => ?_
  refine wp_region_lit ?_
  refine wpList_plain rfl fun K hK => ?_
  refine w_box 2 hF hH rfl (hF.tmp 0 rfl) ?_
  clear hF hH; intro a w b2 hF hH
  refine hK _ _ ?_; clear hK K
  refine wpList_plain rfl fun K hK => ?_
  refine w_box 3 hF hH rfl (hF.tmp 1 rfl) ?_
  clear hF hH; intro a w b3 hF hH
  refine hK _ _ ?_; clear hK K
  refine l_at hF rfl rfl rfl (x_assign rfl) ?_; clear hF; intro a hF
  refine wpList_nil ?_
  refine hK1 _ _ ?_
  refine wp_seq_k fun khK2 hK2 => ?_
  refine wp_region_lit ?_
  refine l_at hF rfl rfl rfl (x_faddr Tryd.underlying55 rfl ty39 (by decide) (hF.tmp 2 rfl) rfl) ?_; clear hF; intro a hF
  refine l_at hF rfl rfl rfl (x_loadn (cs := #[.string (strOfNums p.timer.name), .int .i64 p.timer.ver, .int .u64 p.timer.tick, .int .u64 p.timer.every, .slice Ap0 p.timer.steps.length cp0]) ty39 (hF.tmp 6 rfl) rfl (blk_sub (hH.at 2 rfl) 6 5 rfl)) ?_; clear hF; intro a hF
  refine l_at hF rfl rfl rfl (x_faddr Tryd.underlying55 rfl ty39 (by decide) (hF.tmp 3 rfl) rfl) ?_; clear hF; intro a hF
  refine l_at hF rfl rfl rfl (x_loadn (cs := #[.string (strOfNums q.timer.name), .int .i64 q.timer.ver, .int .u64 q.timer.tick, .int .u64 q.timer.every, .slice Aq0 q.timer.steps.length cq0]) ty39 (hF.tmp 8 rfl) rfl (blk_sub (hH.at 3 rfl) 6 5 rfl)) ?_; clear hF; intro a hF
  refine wpList_plain rfl fun K hK => ?_
  refine w_call hF (x_enter Tryd.func88 (by kernel_rfl) rfl (by simp only [List.map_toArray, List.map_cons, List.map_nil, hF.tmp 7 rfl, hF.tmp 9 rfl] <;> rfl)) (r10same_calls _ ((hH.rd 900 rfl)) ((hH.rd 950 rfl)) ha.timer hb.timer) rfl rfl ?_
  rintro _ w ⟨rfl, hm_⟩; refine ⟨_, rfl, ?_⟩; clear hF; intro a hF; have hH := hH.same hm_
  refine hK _ _ ?_; clear hK K
  refine l_at hF rfl rfl rfl (x_assign (hF.tmp 10 rfl)) ?_; clear hF; intro a hF
  refine wpList_nil ?_
  refine hK2 _ _ ?_
  refine wp_seq_k fun khK3 hK3 => ?_
  refine wp_region_lit ?_
  refine l_at hF rfl rfl rfl (x_faddr Tryd.underlying55 rfl ty50 (by decide) (hF.tmp 2 rfl) rfl) ?_; clear hF; intro a hF
  refine l_at hF rfl rfl rfl (x_load1 ty50 (hF.tmp 11 rfl) (blk_cell (hH.at 2 rfl) 0 rfl)) ?_; clear hF; intro a hF
  refine l_at hF rfl rfl rfl (x_faddr Tryd.underlying55 rfl ty50 (by decide) (hF.tmp 3 rfl) rfl) ?_; clear hF; intro a hF
  refine l_at hF rfl rfl rfl (x_load1 ty50 (hF.tmp 13 rfl) (blk_cell (hH.at 3 rfl) 0 rfl)) ?_; clear hF; intro a hF
  refine l_at hF rfl rfl rfl (x_eql (hF.tmp 12 rfl) (hF.tmp 14 rfl)) ?_; clear hF; intro a hF
  refine l_at hF rfl rfl rfl (x_move (hF.tmp 15 rfl)) ?_; clear hF; intro a hF
  refine split_bool hF 16 rfl (fun hb16 => ?_) (fun hb16 => ?_)
  · have hc16 := hb16; try simp only [Bool.or_eq_true, Bool.and_eq_true, Bool.or_eq_false_iff, Bool.and_eq_false_iff, Bool.not_eq_true', Bool.not_eq_false', decide_eq_true_eq, decide_eq_false_iff_not, Bool.not_true, Bool.not_false] at hc16
    refine l_atg hF ((wanted_of hF rfl rfl rfl rfl).trans (by rw [hb16]; rfl)) rfl rfl (x_faddr Tryd.underlying55 rfl ty9 (by decide) (hF.tmp 2 rfl) rfl) ?_; clear hF; intro a hF
    refine l_atg hF ((wanted_of hF rfl rfl rfl rfl).trans (by rw [hb16]; rfl)) rfl rfl (x_load1 ty9 (hF.tmp 17 rfl) (blk_cell (hH.at 2 rfl) 1 rfl)) ?_; clear hF; intro a hF
    refine l_atg hF ((wanted_of hF rfl rfl rfl rfl).trans (by rw [hb16]; rfl)) rfl rfl (x_faddr Tryd.underlying55 rfl ty9 (by decide) (hF.tmp 3 rfl) rfl) ?_; clear hF; intro a hF
    refine l_atg hF ((wanted_of hF rfl rfl rfl rfl).trans (by rw [hb16]; rfl)) rfl rfl (x_load1 ty9 (hF.tmp 19 rfl) (blk_cell (hH.at 3 rfl) 1 rfl)) ?_; clear hF; intro a hF
    refine l_atg hF ((wanted_of hF rfl rfl rfl rfl).trans (by rw [hb16]; rfl)) rfl rfl (x_eqn (xs := p.key) (ys := q.key) (hF.tmp 18 rfl) (hF.tmp 20 rfl) ha.key hb.key) ?_; clear hF; intro a hF
    refine l_at hF rfl rfl rfl (x_pickT (hF.tmp 16 rfl) hb16 (hF.tmp 21 rfl)) ?_; clear hF; intro a hF
    refine l_at hF rfl rfl rfl (x_move (hF.tmp 22 rfl)) ?_; clear hF; intro a hF
    refine split_bool hF 23 rfl (fun hb23 => ?_) (fun hb23 => ?_)
    · have hc23 := hb23; try simp only [Bool.or_eq_true, Bool.and_eq_true, Bool.or_eq_false_iff, Bool.and_eq_false_iff, Bool.not_eq_true', Bool.not_eq_false', decide_eq_true_eq, decide_eq_false_iff_not, Bool.not_true, Bool.not_false] at hc23
      refine l_atg hF ((wanted_of hF rfl rfl rfl rfl).trans (by rw [hb23]; rfl)) rfl rfl (x_faddr Tryd.underlying55 rfl ty53 (by decide) (hF.tmp 2 rfl) rfl) ?_; clear hF; intro a hF
      refine l_atg hF ((wanted_of hF rfl rfl rfl rfl).trans (by rw [hb23]; rfl)) rfl rfl (x_loadn (cs := #[.int .i64 p.step.1, .string (strOfNums p.step.2.1), .string (strOfNums p.step.2.2.1), .int .i64 p.step.2.2.2]) ty53 (hF.tmp 24 rfl) rfl (blk_sub (hH.at 2 rfl) 2 4 rfl)) ?_; clear hF; intro a hF
      refine l_atg hF ((wanted_of hF rfl rfl rfl rfl).trans (by rw [hb23]; rfl)) rfl rfl (x_faddr Tryd.underlying55 rfl ty53 (by decide) (hF.tmp 3 rfl) rfl) ?_; clear hF; intro a hF
      refine l_atg hF ((wanted_of hF rfl rfl rfl rfl).trans (by rw [hb23]; rfl)) rfl rfl (x_loadn (cs := #[.int .i64 q.step.1, .string (strOfNums q.step.2.1), .string (strOfNums q.step.2.2.1), .int .i64 q.step.2.2.2]) ty53 (hF.tmp 26 rfl) rfl (blk_sub (hH.at 3 rfl) 2 4 rfl)) ?_; clear hF; intro a hF
      refine l_atg hF ((wanted_of hF rfl rfl rfl rfl).trans (by rw [hb23]; rfl)) rfl rfl (st_eqs (x := p.step) (y := q.step) ha.step.1 hb.step.1 ha.step.2.1 hb.step.2.1 (hF.tmp 25 rfl) (hF.tmp 27 rfl)) ?_; clear hF; intro a hF
      refine l_at hF rfl rfl rfl (x_pickT (hF.tmp 23 rfl) hb23 (hF.tmp 28 rfl)) ?_; clear hF; intro a hF
      refine l_at hF rfl rfl rfl (x_move (hF.tmp 29 rfl)) ?_; clear hF; intro a hF
      refine split_bool hF 30 rfl (fun hb30 => ?_) (fun hb30 => ?_)
      · have hc30 := hb30; try simp only [Bool.or_eq_true, Bool.and_eq_true, Bool.or_eq_false_iff, Bool.and_eq_false_iff, Bool.not_eq_true', Bool.not_eq_false', decide_eq_true_eq, decide_eq_false_iff_not, Bool.not_true, Bool.not_false] at hc30
        refine l_atg hF ((wanted_of hF rfl rfl rfl rfl).trans (by rw [hb30]; rfl)) rfl rfl (x_move (hF.tmp 5 rfl)) ?_; clear hF; intro a hF
        refine l_at hF rfl rfl rfl (x_pickT (hF.tmp 30 rfl) hb30 (hF.tmp 31 rfl)) ?_; clear hF; intro a hF
        refine l_at hF rfl rfl rfl (x_assign (hF.tmp 32 rfl)) ?_; clear hF; intro a hF
        refine wpList_nil ?_
        refine hK3 _ _ ?_
        refine wp_ret ?_
        try simp only [Exit.then, Exit.inBlock]
        have hv : (decide (p.timer = q.timer)) = decide (p = q) := by rw [Bool.eq_iff_iff]; simp only [decide_eq_true_iff, opd_same]; first | (simp [hc16, hc23, hc30]; done) | (simp [hc16, hc23, hc30]; omega)
        exact fin_ret hF (res1 (v := .bool (decide (p.timer = q.timer))) hF rfl rfl) ⟨by rw [hv], hH.mods⟩
      · have hc30 := hb30; try simp only [Bool.or_eq_true, Bool.and_eq_true, Bool.or_eq_false_iff, Bool.and_eq_false_iff, Bool.not_eq_true', Bool.not_eq_false', decide_eq_true_eq, decide_eq_false_iff_not, Bool.not_true, Bool.not_false] at hc30
        refine l_offg hF ((wanted_of hF rfl rfl rfl rfl).trans (by rw [hb30]; rfl)) rfl rfl ?_; clear hF; intro a hF
        refine l_at hF rfl rfl rfl (x_pickF (hF.tmp 30 rfl) hb30 rfl) ?_; clear hF; intro a hF
        refine l_at hF rfl rfl rfl (x_assign (hF.tmp 32 rfl)) ?_; clear hF; intro a hF
        refine wpList_nil ?_
        refine hK3 _ _ ?_
        refine wp_ret ?_
        try simp only [Exit.then, Exit.inBlock]
        have hv : false = decide (p = q) := by rw [Bool.eq_iff_iff]; simp only [decide_eq_true_iff, opd_same]; first | (simp [hc16, hc23, hc30]; done) | (simp [hc16, hc23, hc30]; omega)
        exact fin_ret hF (res1 (v := .bool false) hF rfl rfl) ⟨by rw [hv], hH.mods⟩
    · have hc23 := hb23; try simp only [Bool.or_eq_true, Bool.and_eq_true, Bool.or_eq_false_iff, Bool.and_eq_false_iff, Bool.not_eq_true', Bool.not_eq_false', decide_eq_true_eq, decide_eq_false_iff_not, Bool.not_true, Bool.not_false] at hc23
      refine l_offg hF ((wanted_of hF rfl rfl rfl rfl).trans (by rw [hb23]; rfl)) rfl rfl ?_; clear hF; intro a hF
      refine l_offg hF ((wanted_of hF rfl rfl rfl rfl).trans (by rw [hb23]; rfl)) rfl rfl ?_; clear hF; intro a hF
      refine l_offg hF ((wanted_of hF rfl rfl rfl rfl).trans (by rw [hb23]; rfl)) rfl rfl ?_; clear hF; intro a hF
      refine l_offg hF ((wanted_of hF rfl rfl rfl rfl).trans (by rw [hb23]; rfl)) rfl rfl ?_; clear hF; intro a hF
      refine l_offg hF ((wanted_of hF rfl rfl rfl rfl).trans (by rw [hb23]; rfl)) rfl rfl ?_; clear hF; intro a hF
      refine l_at hF rfl rfl rfl (x_pickF (hF.tmp 23 rfl) hb23 rfl) ?_; clear hF; intro a hF
      refine l_at hF rfl rfl rfl (x_move (hF.tmp 29 rfl)) ?_; clear hF; intro a hF
      refine l_offg hF ((wanted_of hF rfl rfl rfl rfl).trans rfl) rfl rfl ?_; clear hF; intro a hF
      refine l_at hF rfl rfl rfl (x_pickF (hF.tmp 30 rfl) rfl rfl) ?_; clear hF; intro a hF
      refine l_at hF rfl rfl rfl (x_assign (hF.tmp 32 rfl)) ?_; clear hF; intro a hF
      refine wpList_nil ?_
      refine hK3 _ _ ?_
      refine wp_ret ?_
      try simp only [Exit.then, Exit.inBlock]
      have hv : false = decide (p = q) := by rw [Bool.eq_iff_iff]; simp only [decide_eq_true_iff, opd_same]; first | (simp [hc16, hc23]; done) | (simp [hc16, hc23]; omega)
      exact fin_ret hF (res1 (v := .bool false) hF rfl rfl) ⟨by rw [hv], hH.mods⟩
  · have hc16 := hb16; try simp only [Bool.or_eq_true, Bool.and_eq_true, Bool.or_eq_false_iff, Bool.and_eq_false_iff, Bool.not_eq_true', Bool.not_eq_false', decide_eq_true_eq, decide_eq_false_iff_not, Bool.not_true, Bool.not_false] at hc16
    refine l_offg hF ((wanted_of hF rfl rfl rfl rfl).trans (by rw [hb16]; rfl)) rfl rfl ?_; clear hF; intro a hF
    refine l_offg hF ((wanted_of hF rfl rfl rfl rfl).trans (by rw [hb16]; rfl)) rfl rfl ?_; clear hF; intro a hF
    refine l_offg hF ((wanted_of hF rfl rfl rfl rfl).trans (by rw [hb16]; rfl)) rfl rfl ?_; clear hF; intro a hF
    refine l_offg hF ((wanted_of hF rfl rfl rfl rfl).trans (by rw [hb16]; rfl)) rfl rfl ?_; clear hF; intro a hF
    refine l_offg hF ((wanted_of hF rfl rfl rfl rfl).trans (by rw [hb16]; rfl)) rfl rfl ?_; clear hF; intro a hF
    refine l_at hF rfl rfl rfl (x_pickF (hF.tmp 16 rfl) hb16 rfl) ?_; clear hF; intro a hF
    refine l_at hF rfl rfl rfl (x_move (hF.tmp 22 rfl)) ?_; clear hF; intro a hF
    refine l_offg hF ((wanted_of hF rfl rfl rfl rfl).trans rfl) rfl rfl ?_; clear hF; intro a hF
    refine l_offg hF ((wanted_of hF rfl rfl rfl rfl).trans rfl) rfl rfl ?_; clear hF; intro a hF
    refine l_offg hF ((wanted_of hF rfl rfl rfl rfl).trans rfl) rfl rfl ?_; clear hF; intro a hF
    refine l_offg hF ((wanted_of hF rfl rfl rfl rfl).trans rfl) rfl rfl ?_; clear hF; intro a hF
    refine l_offg hF ((wanted_of hF rfl rfl rfl rfl).trans rfl) rfl rfl ?_; clear hF; intro a hF
    refine l_at hF rfl rfl rfl (x_pickF (hF.tmp 23 rfl) rfl rfl) ?_; clear hF; intro a hF
    refine l_at hF rfl rfl rfl (x_move (hF.tmp 29 rfl)) ?_; clear hF; intro a hF
    refine l_offg hF ((wanted_of hF rfl rfl rfl rfl).trans rfl) rfl rfl ?_; clear hF; intro a hF
    refine l_at hF rfl rfl rfl (x_pickF (hF.tmp 30 rfl) rfl rfl) ?_; clear hF; intro a hF
    refine l_at hF rfl rfl rfl (x_assign (hF.tmp 32 rfl)) ?_; clear hF; intro a hF
    refine wpList_nil ?_
    refine hK3 _ _ ?_
    refine wp_ret ?_
    try simp only [Exit.then, Exit.inBlock]
    have hv : false = decide (p = q) := by rw [Bool.eq_iff_iff]; simp only [decide_eq_true_iff, opd_same]; first | (simp [hc16]; done) | (simp [hc16]; omega)
    exact fin_ret hF (res1 (v := .bool false) hF rfl rfl) ⟨by rw [hv], hH.mods⟩

set_option maxRecDepth 100000 in
set_option maxHeartbeats 1000000 in
theorem sameOs_calls (w0 : World) {ok1 : Nat → Prop} {A1 : Option Addr} {xs1 : List OpD} {c1 : Nat} (hr1 : Rd OpdE w0 ok1 A1 xs1 c1) {ok2 : Nat → Prop} {A2 : Option Addr} {xs2 : List OpD} {c2 : Nat} (hr2 : Rd OpdE w0 ok2 A2 xs2 c2) (hb1 : ∀ c ∈ xs1, OpB c) (hb2 : ∀ c ∈ xs2, OpB c) : Calls Tryd.prog 22 #[.slice A1 xs1.length c1, .slice A2 xs2.length c2] w0 fun e w' => e = .returned (.bool (decide (xs1 = xs2))) ∧ Mods (fun _ => False) w0 w' := by
  refine calls_of_wp Tryd.func22 rfl ?_
  have hF := Fr.enter #[.slice A1 xs1.length c1, .slice A2 xs2.length c2] 29 (slotsOf [.slice A1 xs1.length c1, .slice A2 xs2.length c2] 0) (Nat.le_of_ble_eq_true rfl) (fun i v h => by have h2 := (get_slotsOf _ 0 i v h).2; simpa only [List.getElem?_toArray, Nat.sub_zero] using h2)
  have hH := Hp.nil (fun _ => False) w0
  rw [Tryd.ntmps22]
  revert hF; generalize (⟨(#[.slice A1 xs1.length c1, .slice A2 xs2.length c2] : Array Value) ++ Array.replicate (29 - (#[.slice A1 xs1.length c1, .slice A2 xs2.length c2] : Array Value).size) undef, []⟩ : Act) = a; intro hF
  have hH := hH.arg 901 hr1.all (fun _ h => ⟨h, fun h => h⟩)
  have hle901 := hr1.le; unfold maxLen at hle901
  have hH := hH.arg 902 hr2.all (fun _ h => ⟨h, fun h => h⟩)
  have hle902 := hr2.le; unfold maxLen at hle902
  refine wp_seq_k fun khK1 hK1 => ?_
  refine wp_region_lit ?_
  refine l_at hF rfl rfl rfl (x_assign rfl) ?_; clear hF; intro a hF
  refine wpList_nil ?_
  refine hK1 _ _ ?_
  refine wp_seq_k fun khK2 hK2 => ?_
  refine wp_seq_k fun khK3 hK3 => ?_
  refine wp_region_lit ?_
  refine l_at hF rfl rfl rfl (x_move (hF.tmp 0 rfl)) ?_; clear hF; intro a hF
  refine l_at hF rfl rfl rfl (x_len_slice Tryd.underlying43 (hF.tmp 7 rfl)) ?_; clear hF; intro a hF
  refine l_at hF rfl rfl rfl (x_move (hF.tmp 1 rfl)) ?_; clear hF; intro a hF
  refine l_at hF rfl rfl rfl (x_len_slice Tryd.underlying43 (hF.tmp 9 rfl)) ?_; clear hF; intro a hF
  refine l_at hF rfl rfl rfl (x_neq (hF.tmp 8 rfl) (hF.tmp 10 rfl)) ?_; clear hF; intro a hF
  refine wpList_nil ?_
  refine hK3 _ _ ?_
  refine wp_cond_split (hF.tmp 11 rfl) (fun hc11 => ?_) (fun hc11 => ?_)
  · have hk11_1 := hc11; try simp only [Bool.or_eq_true, Bool.and_eq_true, Bool.or_eq_false_iff, Bool.and_eq_false_iff, Bool.not_eq_true', Bool.not_eq_false', decide_eq_true_eq, decide_eq_false_iff_not, Bool.not_true, Bool.not_false] at hc11
    have hz := same_len (xs := xs1) (ys := xs2) (by omega)
    refine wp_seq_k fun khK4 hK4 => ?_
    refine wp_region_lit ?_
    refine l_at hF rfl rfl rfl (x_assign rfl) ?_; clear hF; intro a hF
    refine wpList_nil ?_
    refine hK4 _ _ ?_
    refine wp_ret ?_
    try simp only [Exit.then, Exit.inBlock]
    exact fin_ret hF (res1 hF rfl rfl) ⟨by rw [hz] <;> rfl, hH.mods⟩
  · have hk11_2 := hc11; try simp only [Bool.or_eq_true, Bool.and_eq_true, Bool.or_eq_false_iff, Bool.and_eq_false_iff, Bool.not_eq_true', Bool.not_eq_false', decide_eq_true_eq, decide_eq_false_iff_not, Bool.not_true, Bool.not_false] at hc11
    have hll : (xs1.length : Int) = xs2.length := by omega
    refine wp_skip ?_
    refine hK2 _ _ ?_
    refine wp_seq_k fun khK5 hK5 => ?_
    refine wp_seq_k fun khK6 hK6 => ?_
    refine wp_region_lit ?_
    refine l_at hF rfl rfl rfl (x_assign rfl) ?_; clear hF; intro a hF
    refine wpList_nil ?_
    refine hK6 _ _ ?_
    refine wp_block ?_
    refine wp_loop_ghost (fun n_ a w => ∃ k : Nat, n_ = xs1.length - k ∧ (k ≤ xs1.length) ∧ (xs1.take k = xs2.take k) ∧ Fr 29 a [(0, .slice A1 xs1.length c1), (1, .slice A2 xs2.length c2), (5, .int .i64 (k : Int))] ∧ Hp (fun _ => False) w0 w [(901, .rd_ OpdE A1 xs1 c1 (fun k => k < w0.heap.size)), (902, .rd_ OpdE A2 xs2 c2 (fun k => k < w0.heap.size))]) (xs1.length) ?_ ?_
    · exact ⟨0, rfl, by omega, rfl, (((hF.bare.add hF 5 rfl).add hF 1 rfl).add hF 0 rfl), hH.sub _ (sub_cons (sub_cons (sub_nil _) 902 rfl) 901 rfl)⟩
    · rintro _ a w ⟨k, rfl, hq0_0, hq0_1, hF, hH⟩
      refine wp_seq_k fun khK7 hK7 => ?_
      refine wp_seq_k fun khK8 hK8 => ?_
      refine wp_region_lit ?_
      refine l_at hF rfl rfl rfl (x_move (hF.tmp 5 rfl)) ?_; clear hF; intro a hF
      refine l_at hF rfl rfl rfl (x_move (hF.tmp 0 rfl)) ?_; clear hF; intro a hF
      refine l_at hF rfl rfl rfl (x_len_slice Tryd.underlying43 (hF.tmp 13 rfl)) ?_; clear hF; intro a hF
      refine l_at hF rfl rfl rfl (x_lss (hF.tmp 12 rfl) (hF.tmp 14 rfl)) ?_; clear hF; intro a hF
      refine wpList_nil ?_
      refine hK8 _ _ ?_
      refine wp_cond_split (hF.tmp 15 rfl) (fun hc15 => ?_) (fun hc15 => ?_)
      · have hk15_3 := hc15; try simp only [Bool.or_eq_true, Bool.and_eq_true, Bool.or_eq_false_iff, Bool.and_eq_false_iff, Bool.not_eq_true', Bool.not_eq_false', decide_eq_true_eq, decide_eq_false_iff_not, Bool.not_true, Bool.not_false] at hc15
        obtain ⟨fA1, fc1, hfr1, hf1_0, hf1_1, hf1_2, hf1_3, hf1_4, hf1_5, hf1_6, hf1_7, hf1_8, hf1_9, hf1_10, hfw1⟩ := rd_opd ((hH.rd 901 rfl)) (gopd_some (xs := xs1) (i := (k : Int)) (by omega) (by omega))
        have hH := hH.subrd 901 rfl 1010 hfr1 (fun _ h => h)
        have hH := hH.subcels 901 rfl 1499 hfw1 (Rd.inok ((hH.rd 901 rfl)) (by omega) _)
        have hH := hH.subcel 901 rfl 1500 hf1_0 (Rd.inok ((hH.rd 901 rfl)) (by omega) _)
        have hH := hH.subcel 901 rfl 1501 hf1_1 (Rd.inok ((hH.rd 901 rfl)) (by omega) _)
        have hH := hH.subcel 901 rfl 1502 hf1_2 (Rd.inok ((hH.rd 901 rfl)) (by omega) _)
        have hH := hH.subcel 901 rfl 1503 hf1_3 (Rd.inok ((hH.rd 901 rfl)) (by omega) _)
        have hH := hH.subcel 901 rfl 1504 hf1_4 (Rd.inok ((hH.rd 901 rfl)) (by omega) _)
        have hH := hH.subcel 901 rfl 1505 hf1_5 (Rd.inok ((hH.rd 901 rfl)) (by omega) _)
        have hH := hH.subcel 901 rfl 1506 hf1_6 (Rd.inok ((hH.rd 901 rfl)) (by omega) _)
        have hH := hH.subcel 901 rfl 1507 hf1_7 (Rd.inok ((hH.rd 901 rfl)) (by omega) _)
        have hH := hH.subcel 901 rfl 1508 hf1_8 (Rd.inok ((hH.rd 901 rfl)) (by omega) _)
        have hH := hH.subcel 901 rfl 1509 hf1_9 (Rd.inok ((hH.rd 901 rfl)) (by omega) _)
        have hH := hH.subcel 901 rfl 1510 hf1_10 (Rd.inok ((hH.rd 901 rfl)) (by omega) _)
        obtain ⟨fA2, fc2, hfr2, hf2_0, hf2_1, hf2_2, hf2_3, hf2_4, hf2_5, hf2_6, hf2_7, hf2_8, hf2_9, hf2_10, hfw2⟩ := rd_opd ((hH.rd 902 rfl)) (gopd_some (xs := xs2) (i := (k : Int)) (by omega) (by omega))
        have hH := hH.subrd 902 rfl 2010 hfr2 (fun _ h => h)
        have hH := hH.subcels 902 rfl 2499 hfw2 (Rd.inok ((hH.rd 902 rfl)) (by omega) _)
        have hH := hH.subcel 902 rfl 2500 hf2_0 (Rd.inok ((hH.rd 902 rfl)) (by omega) _)
        have hH := hH.subcel 902 rfl 2501 hf2_1 (Rd.inok ((hH.rd 902 rfl)) (by omega) _)
        have hH := hH.subcel 902 rfl 2502 hf2_2 (Rd.inok ((hH.rd 902 rfl)) (by omega) _)
        have hH := hH.subcel 902 rfl 2503 hf2_3 (Rd.inok ((hH.rd 902 rfl)) (by omega) _)
        have hH := hH.subcel 902 rfl 2504 hf2_4 (Rd.inok ((hH.rd 902 rfl)) (by omega) _)
        have hH := hH.subcel 902 rfl 2505 hf2_5 (Rd.inok ((hH.rd 902 rfl)) (by omega) _)
        have hH := hH.subcel 902 rfl 2506 hf2_6 (Rd.inok ((hH.rd 902 rfl)) (by omega) _)
        have hH := hH.subcel 902 rfl 2507 hf2_7 (Rd.inok ((hH.rd 902 rfl)) (by omega) _)
        have hH := hH.subcel 902 rfl 2508 hf2_8 (Rd.inok ((hH.rd 902 rfl)) (by omega) _)
        have hH := hH.subcel 902 rfl 2509 hf2_9 (Rd.inok ((hH.rd 902 rfl)) (by omega) _)
        have hH := hH.subcel 902 rfl 2510 hf2_10 (Rd.inok ((hH.rd 902 rfl)) (by omega) _)
        have hm1 := gopd_mem (xs := xs1) (j := k) (by omega)
        have hm2 := gopd_mem (xs := xs2) (j := k) (by omega)
        refine wp_skip ?_
        refine hK7 _ _ ?_
        refine wp_seq_k fun khK9 hK9 => ?_
        refine wp_block ?_
        refine wp_seq_k fun khK10 hK10 => ?_
        refine r_start [(901, .rd_ OpdE A1 xs1 c1 (fun k => k < w0.heap.size)), (902, .rd_ OpdE A2 xs2 c2 (fun k => k < w0.heap.size)), (1010, .rd_ StE (fA1) (gopd xs1 (k : Int)).timer.steps fc1 (fun k => k < w0.heap.size)), (1499, .cels (adr A1 (Int.toNat (k : Int) * 11)) #[.int .i64 (gopd xs1 (k : Int)).kind, .string (strOfNums (gopd xs1 (k : Int)).key), .int .i64 (gopd xs1 (k : Int)).step.1, .string (strOfNums (gopd xs1 (k : Int)).step.2.1), .string (strOfNums (gopd xs1 (k : Int)).step.2.2.1), .int .i64 (gopd xs1 (k : Int)).step.2.2.2, .string (strOfNums (gopd xs1 (k : Int)).timer.name), .int .i64 (gopd xs1 (k : Int)).timer.ver, .int .u64 (gopd xs1 (k : Int)).timer.tick, .int .u64 (gopd xs1 (k : Int)).timer.every, .slice fA1 (gopd xs1 (k : Int)).timer.steps.length fc1]), (1500, .cel (adr A1 (Int.toNat (k : Int) * 11)) (.int .i64 (gopd xs1 (k : Int)).kind)), (1501, .cel (adr A1 (Int.toNat (k : Int) * 11 + 1)) (.string (strOfNums (gopd xs1 (k : Int)).key))), (1502, .cel (adr A1 (Int.toNat (k : Int) * 11 + 2)) (.int .i64 (gopd xs1 (k : Int)).step.1)), (1503, .cel (adr A1 (Int.toNat (k : Int) * 11 + 3)) (.string (strOfNums (gopd xs1 (k : Int)).step.2.1))), (1504, .cel (adr A1 (Int.toNat (k : Int) * 11 + 4)) (.string (strOfNums (gopd xs1 (k : Int)).step.2.2.1))), (1505, .cel (adr A1 (Int.toNat (k : Int) * 11 + 5)) (.int .i64 (gopd xs1 (k : Int)).step.2.2.2)), (1506, .cel (adr A1 (Int.toNat (k : Int) * 11 + 6)) (.string (strOfNums (gopd xs1 (k : Int)).timer.name))), (1507, .cel (adr A1 (Int.toNat (k : Int) * 11 + 7)) (.int .i64 (gopd xs1 (k : Int)).timer.ver)), (1508, .cel (adr A1 (Int.toNat (k : Int) * 11 + 8)) (.int .u64 (gopd xs1 (k : Int)).timer.tick)), (1509, .cel (adr A1 (Int.toNat (k : Int) * 11 + 9)) (.int .u64 (gopd xs1 (k : Int)).timer.every)), (1510, .cel (adr A1 (Int.toNat (k : Int) * 11 + 10)) (.slice fA1 (gopd xs1 (k : Int)).timer.steps.length fc1)), (2010, .rd_ StE (fA2) (gopd xs2 (k : Int)).timer.steps fc2 (fun k => k < w0.heap.size)), (2499, .cels (adr A2 (Int.toNat (k : Int) * 11)) #[.int .i64 (gopd xs2 (k : Int)).kind, .string (strOfNums (gopd xs2 (k : Int)).key), .int .i64 (gopd xs2 (k : Int)).step.1, .string (strOfNums (gopd xs2 (k : Int)).step.2.1), .string (strOfNums (gopd xs2 (k : Int)).step.2.2.1), .int .i64 (gopd xs2 (k : Int)).step.2.2.2, .string (strOfNums (gopd xs2 (k : Int)).timer.name), .int .i64 (gopd xs2 (k : Int)).timer.ver, .int .u64 (gopd xs2 (k : Int)).timer.tick, .int .u64 (gopd xs2 (k : Int)).timer.every, .slice fA2 (gopd xs2 (k : Int)).timer.steps.length fc2]), (2500, .cel (adr A2 (Int.toNat (k : Int) * 11)) (.int .i64 (gopd xs2 (k : Int)).kind)), (2501, .cel (adr A2 (Int.toNat (k : Int) * 11 + 1)) (.string (strOfNums (gopd xs2 (k : Int)).key))), (2502, .cel (adr A2 (Int.toNat (k : Int) * 11 + 2)) (.int .i64 (gopd xs2 (k : Int)).step.1)), (2503, .cel (adr A2 (Int.toNat (k : Int) * 11 + 3)) (.string (strOfNums (gopd xs2 (k : Int)).step.2.1))), (2504, .cel (adr A2 (Int.toNat (k : Int) * 11 + 4)) (.string (strOfNums (gopd xs2 (k : Int)).step.2.2.1))), (2505, .cel (adr A2 (Int.toNat (k : Int) * 11 + 5)) (.int .i64 (gopd xs2 (k : Int)).step.2.2.2)), (2506, .cel (adr A2 (Int.toNat (k : Int) * 11 + 6)) (.string (strOfNums (gopd xs2 (k : Int)).timer.name))), (2507, .cel (adr A2 (Int.toNat (k : Int) * 11 + 7)) (.int .i64 (gopd xs2 (k : Int)).timer.ver)), (2508, .cel (adr A2 (Int.toNat (k : Int) * 11 + 8)) (.int .u64 (gopd xs2 (k : Int)).timer.tick)), (2509, .cel (adr A2 (Int.toNat (k : Int) * 11 + 9)) (.int .u64 (gopd xs2 (k : Int)).timer.every)), (2510, .cel (adr A2 (Int.toNat (k : Int) * 11 + 10)) (.slice fA2 (gopd xs2 (k : Int)).timer.steps.length fc2))] (by kernel_rfl) hH fun hH => ?_
        have hS : SL [(901, .rd_ OpdE A1 xs1 c1 (fun k => k < w0.heap.size)), (902, .rd_ OpdE A2 xs2 c2 (fun k => k < w0.heap.size)), (1010, .rd_ StE (fA1) (gopd xs1 (k : Int)).timer.steps fc1 (fun k => k < w0.heap.size)), (1499, .cels (adr A1 (Int.toNat (k : Int) * 11)) #[.int .i64 (gopd xs1 (k : Int)).kind, .string (strOfNums (gopd xs1 (k : Int)).key), .int .i64 (gopd xs1 (k : Int)).step.1, .string (strOfNums (gopd xs1 (k : Int)).step.2.1), .string (strOfNums (gopd xs1 (k : Int)).step.2.2.1), .int .i64 (gopd xs1 (k : Int)).step.2.2.2, .string (strOfNums (gopd xs1 (k : Int)).timer.name), .int .i64 (gopd xs1 (k : Int)).timer.ver, .int .u64 (gopd xs1 (k : Int)).timer.tick, .int .u64 (gopd xs1 (k : Int)).timer.every, .slice fA1 (gopd xs1 (k : Int)).timer.steps.length fc1]), (1500, .cel (adr A1 (Int.toNat (k : Int) * 11)) (.int .i64 (gopd xs1 (k : Int)).kind)), (1501, .cel (adr A1 (Int.toNat (k : Int) * 11 + 1)) (.string (strOfNums (gopd xs1 (k : Int)).key))), (1502, .cel (adr A1 (Int.toNat (k : Int) * 11 + 2)) (.int .i64 (gopd xs1 (k : Int)).step.1)), (1503, .cel (adr A1 (Int.toNat (k : Int) * 11 + 3)) (.string (strOfNums (gopd xs1 (k : Int)).step.2.1))), (1504, .cel (adr A1 (Int.toNat (k : Int) * 11 + 4)) (.string (strOfNums (gopd xs1 (k : Int)).step.2.2.1))), (1505, .cel (adr A1 (Int.toNat (k : Int) * 11 + 5)) (.int .i64 (gopd xs1 (k : Int)).step.2.2.2)), (1506, .cel (adr A1 (Int.toNat (k : Int) * 11 + 6)) (.string (strOfNums (gopd xs1 (k : Int)).timer.name))), (1507, .cel (adr A1 (Int.toNat (k : Int) * 11 + 7)) (.int .i64 (gopd xs1 (k : Int)).timer.ver)), (1508, .cel (adr A1 (Int.toNat (k : Int) * 11 + 8)) (.int .u64 (gopd xs1 (k : Int)).timer.tick)), (1509, .cel (adr A1 (Int.toNat (k : Int) * 11 + 9)) (.int .u64 (gopd xs1 (k : Int)).timer.every)), (1510, .cel (adr A1 (Int.toNat (k : Int) * 11 + 10)) (.slice fA1 (gopd xs1 (k : Int)).timer.steps.length fc1)), (2010, .rd_ StE (fA2) (gopd xs2 (k : Int)).timer.steps fc2 (fun k => k < w0.heap.size)), (2499, .cels (adr A2 (Int.toNat (k : Int) * 11)) #[.int .i64 (gopd xs2 (k : Int)).kind, .string (strOfNums (gopd xs2 (k : Int)).key), .int .i64 (gopd xs2 (k : Int)).step.1, .string (strOfNums (gopd xs2 (k : Int)).step.2.1), .string (strOfNums (gopd xs2 (k : Int)).step.2.2.1), .int .i64 (gopd xs2 (k : Int)).step.2.2.2, .string (strOfNums (gopd xs2 (k : Int)).timer.name), .int .i64 (gopd xs2 (k : Int)).timer.ver, .int .u64 (gopd xs2 (k : Int)).timer.tick, .int .u64 (gopd xs2 (k : Int)).timer.every, .slice fA2 (gopd xs2 (k : Int)).timer.steps.length fc2]), (2500, .cel (adr A2 (Int.toNat (k : Int) * 11)) (.int .i64 (gopd xs2 (k : Int)).kind)), (2501, .cel (adr A2 (Int.toNat (k : Int) * 11 + 1)) (.string (strOfNums (gopd xs2 (k : Int)).key))), (2502, .cel (adr A2 (Int.toNat (k : Int) * 11 + 2)) (.int .i64 (gopd xs2 (k : Int)).step.1)), (2503, .cel (adr A2 (Int.toNat (k : Int) * 11 + 3)) (.string (strOfNums (gopd xs2 (k : Int)).step.2.1))), (2504, .cel (adr A2 (Int.toNat (k : Int) * 11 + 4)) (.string (strOfNums (gopd xs2 (k : Int)).step.2.2.1))), (2505, .cel (adr A2 (Int.toNat (k : Int) * 11 + 5)) (.int .i64 (gopd xs2 (k : Int)).step.2.2.2)), (2506, .cel (adr A2 (Int.toNat (k : Int) * 11 + 6)) (.string (strOfNums (gopd xs2 (k : Int)).timer.name))), (2507, .cel (adr A2 (Int.toNat (k : Int) * 11 + 7)) (.int .i64 (gopd xs2 (k : Int)).timer.ver)), (2508, .cel (adr A2 (Int.toNat (k : Int) * 11 + 8)) (.int .u64 (gopd xs2 (k : Int)).timer.tick)), (2509, .cel (adr A2 (Int.toNat (k : Int) * 11 + 9)) (.int .u64 (gopd xs2 (k : Int)).timer.every)), (2510, .cel (adr A2 (Int.toNat (k : Int) * 11 + 10)) (.slice fA2 (gopd xs2 (k : Int)).timer.steps.length fc2))] _ := SL.of hH (sub_cons (sub_cons (sub_cons (sub_cons (sub_cons (sub_cons (sub_cons (sub_cons (sub_cons (sub_cons (sub_cons (sub_cons (sub_cons (sub_cons (sub_cons (sub_cons (sub_cons (sub_cons (sub_cons (sub_cons (sub_cons (sub_cons (sub_cons (sub_cons (sub_cons (sub_cons (sub_cons (sub_cons (sub_nil _) 2510 rfl) 2509 rfl) 2508 rfl) 2507 rfl) 2506 rfl) 2505 rfl) 2504 rfl) 2503 rfl) 2502 rfl) 2501 rfl) 2500 rfl) 2499 rfl) 2010 rfl) 1510 rfl) 1509 rfl) 1508 rfl) 1507 rfl) 1506 rfl) 1505 rfl) 1504 rfl) 1503 rfl) 1502 rfl) 1501 rfl) 1500 rfl) 1499 rfl) 1010 rfl) 902 rfl) 901 rfl)
        refine r_take 0 hF rfl rfl rfl (by kernel_rfl) (by kernel_rfl) (by kernel_rfl) (fun _ _ _ h => h) rfl hS (fun w hS => x_move (hF.tmp 0 rfl)) rfl ?_; clear hF; intro a hF
        refine r_take 1 hF rfl rfl rfl (by kernel_rfl) (by kernel_rfl) (by kernel_rfl) (fun _ _ _ h => h) rfl hS (fun w hS => x_move (hF.tmp 5 rfl)) rfl ?_; clear hF; intro a hF
        refine r_take 2 hF rfl rfl rfl (by kernel_rfl) (by kernel_rfl) (by kernel_rfl) (fun _ _ _ h => h) rfl hS (fun w hS => x_iaddr_A Tryd.underlying43 ty55 ((hH.rd 901 rfl)) (hF.tmp 18 rfl) (hF.tmp 19 rfl) (by omega) (by omega) _) rfl ?_; clear hF; intro a hF
        refine r_take 3 hF rfl rfl rfl (by kernel_rfl) (by kernel_rfl) (by kernel_rfl) (fun _ _ _ h => h) rfl hS (fun w hS => x_loadn ty55 (hF.tmp 20 rfl) rfl (hS 1499 _ rfl)) rfl ?_; clear hF; intro a hF
        refine r_take 4 hF rfl rfl rfl (by kernel_rfl) (by kernel_rfl) (by kernel_rfl) (fun _ _ _ h => h) rfl hS (fun w hS => x_move (hF.tmp 1 rfl)) rfl ?_; clear hF; intro a hF
        refine r_take 5 hF rfl rfl rfl (by kernel_rfl) (by kernel_rfl) (by kernel_rfl) (fun _ _ _ h => h) rfl hS (fun w hS => x_move (hF.tmp 5 rfl)) rfl ?_; clear hF; intro a hF
        refine r_take 6 hF rfl rfl rfl (by kernel_rfl) (by kernel_rfl) (by kernel_rfl) (fun _ _ _ h => h) rfl hS (fun w hS => x_iaddr_A Tryd.underlying43 ty55 ((hH.rd 902 rfl)) (hF.tmp 22 rfl) (hF.tmp 23 rfl) (by omega) (by omega) _) rfl ?_; clear hF; intro a hF
        refine r_take 7 hF rfl rfl rfl (by kernel_rfl) (by kernel_rfl) (by kernel_rfl) (fun _ _ _ h => h) rfl hS (fun w hS => x_loadn ty55 (hF.tmp 24 rfl) rfl (hS 2499 _ rfl)) rfl ?_; clear hF; intro a hF
        refine r_do 8 rfl (by kernel_rfl) rfl rfl ?_
        refine w_call hF (x_enter Tryd.func57 (by kernel_rfl) rfl (by simp only [List.map_toArray, List.map_cons, List.map_nil, hF.tmp 21 rfl, hF.tmp 25 rfl] <;> rfl)) (sameO_calls _ ((hH.rd 1010 rfl)) ((hH.rd 2010 rfl)) (hb1 _ hm1) (hb2 _ hm2)) rfl rfl ?_
        rintro _ w ⟨rfl, hm_⟩; refine ⟨_, rfl, ?_⟩; clear hF; intro a hF; have hH := hH.same hm_
        clear hS; have hS : SL _ _ := SL.of hH (sub_cons (sub_cons (sub_cons (sub_cons (sub_cons (sub_cons (sub_cons (sub_cons (sub_cons (sub_cons (sub_cons (sub_cons (sub_cons (sub_cons (sub_cons (sub_cons (sub_cons (sub_cons (sub_cons (sub_cons (sub_cons (sub_cons (sub_cons (sub_cons (sub_cons (sub_cons (sub_cons (sub_cons (sub_nil _) 2510 rfl) 2509 rfl) 2508 rfl) 2507 rfl) 2506 rfl) 2505 rfl) 2504 rfl) 2503 rfl) 2502 rfl) 2501 rfl) 2500 rfl) 2499 rfl) 2010 rfl) 1510 rfl) 1509 rfl) 1508 rfl) 1507 rfl) 1506 rfl) 1505 rfl) 1504 rfl) 1503 rfl) 1502 rfl) 1501 rfl) 1500 rfl) 1499 rfl) 1010 rfl) 902 rfl) 901 rfl); refine ⟨hS, ?_⟩
        refine r_take 9 hF rfl rfl rfl (by kernel_rfl) (by kernel_rfl) (by kernel_rfl) (fun _ _ _ h => h) rfl hS (fun w hS => x_assign (hF.tmp 26 rfl)) rfl ?_; clear hF; intro a hF
        refine r_end (by kernel_rfl) ?_; clear hS
        refine hK10 _ _ ?_
        refine wp_seq_k fun khK11 hK11 => ?_
        refine wp_region_lit ?_
        refine l_at hF rfl rfl rfl (x_move (hF.tmp 6 rfl)) ?_; clear hF; intro a hF
        refine l_at hF rfl rfl rfl (x_not (hF.tmp 27 rfl)) ?_; clear hF; intro a hF
        refine wpList_nil ?_
        refine hK11 _ _ ?_
        refine wp_cond_split (hF.tmp 28 rfl) (fun hc28 => ?_) (fun hc28 => ?_)
        · have hk28_4 := hc28; try simp only [Bool.or_eq_true, Bool.and_eq_true, Bool.or_eq_false_iff, Bool.and_eq_false_iff, Bool.not_eq_true', Bool.not_eq_false', decide_eq_true_eq, decide_eq_false_iff_not, Bool.not_true, Bool.not_false] at hc28
          have hz := same_at (xs := xs1) (ys := xs2) (fun l => gopd l (k : Int)) hc28
          refine wp_seq_k fun khK12 hK12 => ?_
          refine wp_region_lit ?_
          refine l_at hF rfl rfl rfl (x_assign rfl) ?_; clear hF; intro a hF
          refine wpList_nil ?_
          refine hK12 _ _ ?_
          refine wp_ret ?_
          try simp only [Exit.then, Exit.inBlock]
          exact fin_ret hF (res1 hF rfl rfl) ⟨by rw [hz] <;> rfl, hH.mods⟩
        · have hk28_5 := hc28; try simp only [Bool.or_eq_true, Bool.and_eq_true, Bool.or_eq_false_iff, Bool.and_eq_false_iff, Bool.not_eq_true', Bool.not_eq_false', decide_eq_true_eq, decide_eq_false_iff_not, Bool.not_true, Bool.not_false] at hc28
          refine wp_skip ?_
          refine hK9 _ _ ?_
          refine wp_region_lit ?_
          refine l_at hF rfl rfl rfl (x_move (hF.tmp 5 rfl)) ?_; clear hF; intro a hF
          refine l_at hF rfl rfl rfl (x_add (hF.tmp 16 rfl) rfl (w64 (by omega) (by omega))) ?_; clear hF; intro a hF
          refine l_at hF rfl rfl rfl (x_assign (hF.tmp 17 rfl)) ?_; clear hF; intro a hF
          refine wpList_nil ?_
          exact ⟨_, by omega, ⟨k + 1, rfl, by omega, same_step (gopd_some (xs := xs1) (i := (k : Int)) (by omega) (by omega)) (gopd_some (xs := xs2) (i := (k : Int)) (by omega) (by omega)) hq0_1 hc28, (((hF.bare.add hF 5 rfl).add hF 1 rfl).add hF 0 rfl), hH.sub _ (sub_cons (sub_cons (sub_nil _) 902 rfl) 901 rfl)⟩⟩
      · have hk15_6 := hc15; try simp only [Bool.or_eq_true, Bool.and_eq_true, Bool.or_eq_false_iff, Bool.and_eq_false_iff, Bool.not_eq_true', Bool.not_eq_false', decide_eq_true_eq, decide_eq_false_iff_not, Bool.not_true, Bool.not_false] at hc15
        have hz := same_yes (xs := xs1) (ys := xs2) (k := k) (by omega) hll hq0_1
        refine wp_exit ?_
        refine hK5 _ _ ?_
        refine wp_seq_k fun khK13 hK13 => ?_
        refine wp_region_lit ?_
        refine l_at hF rfl rfl rfl (x_assign rfl) ?_; clear hF; intro a hF
        refine wpList_nil ?_
        refine hK13 _ _ ?_
        refine wp_ret ?_
        try simp only [Exit.then, Exit.inBlock]
        exact fin_ret hF (res1 hF rfl rfl) ⟨by rw [hz] <;> rfl, hH.mods⟩

set_option maxRecDepth 100000 in
set_option maxHeartbeats 1000000 in
theorem sWraps_calls (w0 : World) {pp : Bool} (hL : LibAt pp w0) {r : SReqD} {okr0 : Nat → Prop} {Ar0 : Option Addr} {cr0 : Nat} (hrr0 : Rd OpdE w0 okr0 Ar0 r.ops cr0) (hb : SReqB r) : Calls Tryd.prog 5 #[.agg #[.string (strOfNums r.client), .int .i64 r.num, .slice Ar0 r.ops.length cr0]] w0 fun e w' => e = .returned (.bool true) ∧ Mods (fun _ => False) w0 w' := by
  refine calls_of_wp Tryd.func5 rfl ?_
  have hF := Fr.enter #[.agg #[.string (strOfNums r.client), .int .i64 r.num, .slice Ar0 r.ops.length cr0]] 119 (slotsOf [.agg #[.string (strOfNums r.client), .int .i64 r.num, .slice Ar0 r.ops.length cr0]] 0) (Nat.le_of_ble_eq_true rfl) (fun i v h => by have h2 := (get_slotsOf _ 0 i v h).2; simpa only [List.getElem?_toArray, Nat.sub_zero] using h2)
  have hH := Hp.nil (fun _ => False) w0
  rw [Tryd.ntmps5]
  revert hF; generalize (⟨(#[.agg #[.string (strOfNums r.client), .int .i64 r.num, .slice Ar0 r.ops.length cr0]] : Array Value) ++ Array.replicate (119 - (#[.agg #[.string (strOfNums r.client), .int .i64 r.num, .slice Ar0 r.ops.length cr0]] : Array Value).size) undef, []⟩ : Act) = a; intro hF
  have hH := hH.arg 900 hrr0.all (fun _ h => ⟨h, fun h => h⟩)
  have hler0 := hrr0.le; unfold maxLen at hler0
  have hH := hH.libN 990 hL
  refine wp_seq_k fun khK1 hK1 => ?_
  refine wp_region_lit ?_
  refine wpList_plain rfl fun K hK => ?_
  refine w_box 1 hF hH rfl (hF.tmp 0 rfl) ?_
  clear hF hH; intro a w b1 hF hH
  refine hK _ _ ?_; clear hK K
  refine l_at hF rfl rfl rfl (x_assign rfl) ?_; clear hF; intro a hF
  refine wpList_nil ?_
  refine hK1 _ _ ?_
  refine wp_seq_k fun khK2 hK2 => ?_
  refine wp_region_lit ?_
  refine l_at hF rfl rfl rfl (x_loadn ty45 (hF.tmp 1 rfl) rfl (blk_whole (hH.at 1 rfl))) ?_; clear hF; intro a hF
  refine wpList_plain rfl fun K hK => ?_
  refine w_call hF (x_enter Tryd.func18 (by kernel_rfl) rfl (by simp only [List.map_toArray, List.map_cons, List.map_nil, hF.tmp 10 rfl] <;> rfl)) (fitsQ_calls (r := r) _ ((hH.rd 900 rfl))) rfl rfl ?_
  rintro _ w ⟨bf_, rfl, hm_⟩; refine ⟨_, rfl, ?_⟩; clear hF; intro a hF; have hH := hH.same hm_
  refine hK _ _ ?_; clear hK K
  refine l_at hF rfl rfl rfl (x_assign (hF.tmp 11 rfl)) ?_; clear hF; intro a hF
  refine wpList_nil ?_
  refine hK2 _ _ ?_
  refine wp_seq_k fun khK3 hK3 => ?_
  refine wp_seq_k fun khK4 hK4 => ?_
  refine wp_region_lit ?_
  refine l_at hF rfl rfl rfl (x_move (hF.tmp 3 rfl)) ?_; clear hF; intro a hF
  refine l_at hF rfl rfl rfl (x_not (hF.tmp 12 rfl)) ?_; clear hF; intro a hF
  refine wpList_nil ?_
  refine hK4 _ _ ?_
  refine wp_cond_split (hF.tmp 13 rfl) (fun hc13 => ?_) (fun hc13 => ?_)
  · have hk13_1 := hc13; try simp only [Bool.or_eq_true, Bool.and_eq_true, Bool.or_eq_false_iff, Bool.and_eq_false_iff, Bool.not_eq_true', Bool.not_eq_false', decide_eq_true_eq, decide_eq_false_iff_not, Bool.not_true, Bool.not_false] at hc13
    refine wp_seq_k fun khK5 hK5 => ?_
    refine wp_region_lit ?_
    refine wpList_plain rfl fun K hK => ?_
    refine w_call hF (x_enter Tryd.func19 (by kernel_rfl) rfl (by simp only [List.map_toArray, List.map_cons, List.map_nil] <;> rfl)) (qalive_calls _ (hH.holds 990 _ rfl)) rfl rfl ?_
    rintro _ w ⟨rfl, hm_⟩; refine ⟨_, rfl, ?_⟩; clear hF; intro a hF; have hH := hH.same hm_
    refine hK _ _ ?_; clear hK K
    refine l_at hF rfl rfl rfl (x_assign (hF.tmp 14 rfl)) ?_; clear hF; intro a hF
    refine wpList_nil ?_
    refine hK5 _ _ ?_
    refine wp_ret ?_
    try simp only [Exit.then, Exit.inBlock]
    exact fin_ret hF (res1 (v := .bool true) hF rfl rfl) ⟨rfl, hH.mods⟩
  · have hk13_2 := hc13; try simp only [Bool.or_eq_true, Bool.and_eq_true, Bool.or_eq_false_iff, Bool.and_eq_false_iff, Bool.not_eq_true', Bool.not_eq_false', decide_eq_true_eq, decide_eq_false_iff_not, Bool.not_true, Bool.not_false] at hc13
    refine wp_skip ?_
    refine hK3 _ _ ?_
    refine wp_seq_k fun khK6 hK6 => ?_
    refine wp_region_lit ?_
    refine l_at hF rfl rfl rfl (x_loadn ty45 (hF.tmp 1 rfl) rfl (blk_whole (hH.at 1 rfl))) ?_; clear hF; intro a hF
    refine wpList_plain rfl fun K hK => ?_
    refine w_call hF (x_enter Tryd.func20 (by kernel_rfl) rfl (by simp only [List.map_toArray, List.map_cons, List.map_nil, hF.tmp 15 rfl] <;> rfl)) (wrap_calls (r := r) _ (hH.holds 990 _ rfl) ((hH.rd 900 rfl)) hb) rfl rfl ?_
    rintro _ w ⟨vr18, rfl, hm_, okr18, hr_, hf_, ho18_⟩; refine ⟨_, rfl, ?_⟩; clear hF; intro a hF; have hH := hH.newRow 18 hm_ hr_ hf_ ho18_; obtain ⟨Ar18, cr18, rfl⟩ := (hH.row 18 rfl).form
    refine hK _ _ ?_; clear hK K
    refine l_at hF rfl rfl rfl (x_assign (hF.tmp 16 rfl)) ?_; clear hF; intro a hF
    have hH := hH.freeze 18 rfl (fun kb => okr18 kb ∨ (Value.slice Ar18 (wrapL r).length cr18).ownBlock = some kb) (fun kb => Iff.rfl)
    refine wpList_nil ?_
    refine hK6 _ _ ?_
    refine wp_seq_k fun khK7 hK7 => ?_
    refine wp_seq_k fun khK8 hK8 => ?_
    refine wp_region_lit ?_
    refine l_at hF rfl rfl rfl (x_loadn ty45 (hF.tmp 1 rfl) rfl (blk_whole (hH.at 1 rfl))) ?_; clear hF; intro a hF
    refine wpList_plain rfl fun K hK => ?_
    refine w_call hF (x_enter Tryd.func21 (by kernel_rfl) rfl (by simp only [List.map_toArray, List.map_cons, List.map_nil, hF.tmp 17 rfl] <;> rfl)) (rightQ_calls (r := r) _ (hH.holds 990 _ rfl) ((hH.rd 900 rfl)) hb) rfl rfl ?_
    rintro _ w ⟨rfl, hm_⟩; refine ⟨_, rfl, ?_⟩; clear hF; intro a hF; have hH := hH.same hm_
    refine hK _ _ ?_; clear hK K
    refine l_at hF rfl rfl rfl (x_not (hF.tmp 18 rfl)) ?_; clear hF; intro a hF
    refine wpList_nil ?_
    refine hK8 _ _ ?_
    refine wp_cond_split (hF.tmp 19 rfl) (fun hc19 => ?_) (fun hc19 => ?_)
    · have hk19_3 := hc19; try simp only [Bool.or_eq_true, Bool.and_eq_true, Bool.or_eq_false_iff, Bool.and_eq_false_iff, Bool.not_eq_true', Bool.not_eq_false', decide_eq_true_eq, decide_eq_false_iff_not, Bool.not_true, Bool.not_false] at hc19
      have hz : rightQ r = false := by simpa using hc19
      refine wp_seq_k fun khK9 hK9 => ?_
      refine wp_region_lit ?_
      refine wpList_plain rfl fun K hK => ?_
      refine w_call hF (x_enter Tryd.func19 (by kernel_rfl) rfl (by simp only [List.map_toArray, List.map_cons, List.map_nil] <;> rfl)) (qalive_calls _ (hH.holds 990 _ rfl)) rfl rfl ?_
      rintro _ w ⟨rfl, hm_⟩; refine ⟨_, rfl, ?_⟩; clear hF; intro a hF; have hH := hH.same hm_
      refine hK _ _ ?_; clear hK K
      refine l_at hF rfl rfl rfl (x_move (hF.tmp 20 rfl)) ?_; clear hF; intro a hF
      refine l_atg hF ((wanted_of hF rfl rfl rfl rfl).trans rfl) rfl rfl (x_move (hF.tmp 4 rfl)) ?_; clear hF; intro a hF
      refine l_atg hF ((wanted_of hF rfl rfl rfl rfl).trans rfl) rfl rfl (x_len_slice Tryd.underlying43 (hF.tmp 22 rfl)) ?_; clear hF; intro a hF
      refine l_atg hF ((wanted_of hF rfl rfl rfl rfl).trans rfl) rfl rfl (x_eql (hF.tmp 23 rfl) rfl) ?_; clear hF; intro a hF
      rw [show decide (((wrapL r).length : Int) = 0) = true from decide_eq_true (by rw [wrapL_no hz]; rfl)] at hF
      refine l_at hF rfl rfl rfl (x_pickT (hF.tmp 21 rfl) rfl (hF.tmp 24 rfl)) ?_; clear hF; intro a hF
      refine l_at hF rfl rfl rfl (x_assign (hF.tmp 25 rfl)) ?_; clear hF; intro a hF
      refine wpList_nil ?_
      refine hK9 _ _ ?_
      refine wp_ret ?_
      try simp only [Exit.then, Exit.inBlock]
      exact fin_ret hF (res1 (v := .bool true) hF rfl rfl) ⟨rfl, hH.mods⟩
    · have hk19_4 := hc19; try simp only [Bool.or_eq_true, Bool.and_eq_true, Bool.or_eq_false_iff, Bool.and_eq_false_iff, Bool.not_eq_true', Bool.not_eq_false', decide_eq_true_eq, decide_eq_false_iff_not, Bool.not_true, Bool.not_false] at hc19
      have hr : rightQ r = true := by simpa using hc19
      have hwl := wrap_len hr
      have hrl := ((rightQ_parts hr)).2.2.2.2.2.1
      refine wp_skip ?_
      refine hK7 _ _ ?_
      refine wp_seq_k fun khK10 hK10 => ?_
      refine r_start [(900, .rd_ OpdE Ar0 r.ops cr0 (fun k => k < w0.heap.size)), (18, .rd_ OpdE Ar18 (wrapL r) cr18 (fun kb => okr18 kb ∨ (Value.slice Ar18 (wrapL r).length cr18).ownBlock = some kb)), (1, .blk b1 (.cells #[.string (strOfNums r.client), .int .i64 r.num, .slice Ar0 r.ops.length cr0] 45 (0, 0)))] (by kernel_rfl) hH fun hH => ?_
      have hS : SL [(900, .rd_ OpdE Ar0 r.ops cr0 (fun k => k < w0.heap.size)), (18, .rd_ OpdE Ar18 (wrapL r) cr18 (fun kb => okr18 kb ∨ (Value.slice Ar18 (wrapL r).length cr18).ownBlock = some kb)), (1, .blk b1 (.cells #[.string (strOfNums r.client), .int .i64 r.num, .slice Ar0 r.ops.length cr0] 45 (0, 0)))] _ := SL.of hH (sub_cons (sub_cons (sub_cons (sub_nil _) 1 rfl) 18 rfl) 900 rfl)
      refine r_take 0 hF rfl rfl rfl (by kernel_rfl) (by kernel_rfl) (by kernel_rfl) (fun _ _ _ h => h) rfl hS (fun w hS => x_move (hF.tmp 4 rfl)) rfl ?_; clear hF; intro a hF
      refine r_take 1 hF rfl rfl rfl (by kernel_rfl) (by kernel_rfl) (by kernel_rfl) (fun _ _ _ h => h) rfl hS (fun w hS => x_move (hF.tmp 4 rfl)) rfl ?_; clear hF; intro a hF
      refine r_take 2 hF rfl rfl rfl (by kernel_rfl) (by kernel_rfl) (by kernel_rfl) (fun _ _ _ h => h) rfl hS (fun w hS => x_len_slice Tryd.underlying43 (hF.tmp 27 rfl)) rfl ?_; clear hF; intro a hF
      refine r_take 3 hF rfl rfl rfl (by kernel_rfl) (by kernel_rfl) (by kernel_rfl) (fun _ _ _ h => h) rfl hS (fun w hS => x_sub (hF.tmp 28 rfl) rfl (w64 (by omega) (by omega))) rfl ?_; clear hF; intro a hF
      refine r_take 4 hF rfl rfl rfl (by kernel_rfl) (by kernel_rfl) (by kernel_rfl) (fun _ _ _ h => h) rfl hS (fun w hS => x_slice_lh (E := OpdE) Tryd.underlying43 ty55 (hF.tmp 26 rfl) rfl (hF.tmp 29 rfl) (by omega) (by omega) (by omega) ((hH.rd 18 rfl)).1) rfl ?_; clear hF; intro a hF
      refine r_take 5 hF rfl rfl rfl (by kernel_rfl) (by kernel_rfl) (by kernel_rfl) (fun _ _ _ h => h) rfl hS (fun w hS => x_faddr Tryd.underlying45 rfl ty43 (by decide) (hF.tmp 1 rfl) rfl) rfl ?_; clear hF; intro a hF
      refine r_take 6 hF rfl rfl rfl (by kernel_rfl) (by kernel_rfl) (by kernel_rfl) (fun _ _ _ h => h) rfl hS (fun w hS => x_load1 ty43 (hF.tmp 31 rfl) (blk_cell (SL.at_ hS 1 rfl) 2 rfl)) rfl ?_; clear hF; intro a hF
      refine r_do 7 rfl (by kernel_rfl) rfl rfl ?_
      refine w_call hF (x_enter Tryd.func22 (by kernel_rfl) rfl (by simp only [List.map_toArray, List.map_cons, List.map_nil, hF.tmp 30 rfl, hF.tmp 32 rfl] <;> rfl)) (sameOs_calls _ ((Rd.drop ((Rd.take ((hH.rd 18 rfl)) ((((wrapL r).length : Int) - 1).toNat))) (by rw [List.length_take]; omega : (Int.toNat 1) ≤ ((wrapL r).take ((((wrapL r).length : Int) - 1).toNat)).length))) ((hH.rd 900 rfl)) (fun c hc => wrap_B hb hr (List.mem_of_mem_take (List.mem_of_mem_drop hc))) hb.ops) rfl rfl ?_
      rintro _ w ⟨rfl, hm_⟩; refine ⟨_, rfl, ?_⟩; clear hF; intro a hF; have hH := hH.same hm_
      clear hS; have hS : SL _ _ := SL.of hH (sub_cons (sub_cons (sub_cons (sub_nil _) 1 rfl) 18 rfl) 900 rfl); refine ⟨hS, ?_⟩
      refine r_take 8 hF rfl rfl rfl (by kernel_rfl) (by kernel_rfl) (by kernel_rfl) (fun _ _ _ h => h) rfl hS (fun w hS => x_assign (hF.tmp 33 rfl)) rfl ?_; clear hF; intro a hF
      refine r_end (by kernel_rfl) ?_; clear hS
      refine hK10 _ _ ?_
      refine wp_seq_k fun khK11 hK11 => ?_
      refine wp_seq_k fun khK12 hK12 => ?_
      refine wp_region_lit ?_
      rw [show decide (((wrapL r).take (((wrapL r).length : Int) - 1).toNat).drop (Int.toNat 1) = r.ops) = true from decide_eq_true (wrap_mid hr)] at hF
      refine l_at hF rfl rfl rfl (x_assign rfl) ?_; clear hF; intro a hF
      refine wpList_nil ?_
      refine hK12 _ _ ?_
      refine wp_block ?_
      refine wp_loop_ghost (fun n_ a w => ∃ k : Nat, n_ = (wrapL r).length - k ∧ (k ≤ (wrapL r).length) ∧ Fr 119 a [(1, .pointer (some ⟨b1, 0, none⟩)), (4, .slice Ar18 (wrapL r).length cr18), (5, .bool true), (6, .int .i64 (k : Int))] ∧ Hp (fun _ => False) w0 w [(900, .rd_ OpdE Ar0 r.ops cr0 (fun k => k < w0.heap.size)), (990, .lib pp), (1, .blk b1 (.cells #[.string (strOfNums r.client), .int .i64 r.num, .slice Ar0 r.ops.length cr0] 45 (0, 0))), (18, .rd_ OpdE Ar18 (wrapL r) cr18 (fun kb => okr18 kb ∨ (Value.slice Ar18 (wrapL r).length cr18).ownBlock = some kb))]) ((wrapL r).length) ?_ ?_
      · exact ⟨0, rfl, by omega, ((((hF.bare.add hF 6 rfl).add hF 5 rfl).add hF 4 rfl).add hF 1 rfl), hH.sub _ (sub_cons (sub_cons (sub_cons (sub_cons (sub_nil _) 18 rfl) 1 rfl) 990 rfl) 900 rfl)⟩
      · rintro _ a w ⟨k, rfl, hq0_0, hF, hH⟩
        refine wp_seq_k fun khK13 hK13 => ?_
        refine wp_seq_k fun khK14 hK14 => ?_
        refine wp_region_lit ?_
        refine l_at hF rfl rfl rfl (x_move (hF.tmp 6 rfl)) ?_; clear hF; intro a hF
        refine l_at hF rfl rfl rfl (x_move (hF.tmp 4 rfl)) ?_; clear hF; intro a hF
        refine l_at hF rfl rfl rfl (x_len_slice Tryd.underlying43 (hF.tmp 35 rfl)) ?_; clear hF; intro a hF
        refine l_at hF rfl rfl rfl (x_lss (hF.tmp 34 rfl) (hF.tmp 36 rfl)) ?_; clear hF; intro a hF
        refine wpList_nil ?_
        refine hK14 _ _ ?_
        refine wp_cond_split (hF.tmp 37 rfl) (fun hc37 => ?_) (fun hc37 => ?_)
        · have hk37_5 := hc37; try simp only [Bool.or_eq_true, Bool.and_eq_true, Bool.or_eq_false_iff, Bool.and_eq_false_iff, Bool.not_eq_true', Bool.not_eq_false', decide_eq_true_eq, decide_eq_false_iff_not, Bool.not_true, Bool.not_false] at hc37
          refine wp_skip ?_
          refine hK13 _ _ ?_
          refine wp_seq_k fun khK15 hK15 => ?_
          refine wp_block ?_
          refine wp_seq_k fun khK16 hK16 => ?_
          refine wp_region_lit ?_
          obtain ⟨fA1, fc1, hfr1, hf1_0, hf1_1, hf1_2, hf1_3, hf1_4, hf1_5, hf1_6, hf1_7, hf1_8, hf1_9, hf1_10, hfw1⟩ := rd_opd ((hH.rd 18 rfl)) (gopd_some (xs := (wrapL r)) (i := (k : Int)) (by omega) (by omega))
          have hH := hH.subrd 18 rfl 1010 hfr1 (fun _ h => h)
          have hH := hH.subcels 18 rfl 1499 hfw1 (Rd.inok ((hH.rd 18 rfl)) (by omega) _)
          have hH := hH.subcel 18 rfl 1500 hf1_0 (Rd.inok ((hH.rd 18 rfl)) (by omega) _)
          have hH := hH.subcel 18 rfl 1501 hf1_1 (Rd.inok ((hH.rd 18 rfl)) (by omega) _)
          have hH := hH.subcel 18 rfl 1502 hf1_2 (Rd.inok ((hH.rd 18 rfl)) (by omega) _)
          have hH := hH.subcel 18 rfl 1503 hf1_3 (Rd.inok ((hH.rd 18 rfl)) (by omega) _)
          have hH := hH.subcel 18 rfl 1504 hf1_4 (Rd.inok ((hH.rd 18 rfl)) (by omega) _)
          have hH := hH.subcel 18 rfl 1505 hf1_5 (Rd.inok ((hH.rd 18 rfl)) (by omega) _)
          have hH := hH.subcel 18 rfl 1506 hf1_6 (Rd.inok ((hH.rd 18 rfl)) (by omega) _)
          have hH := hH.subcel 18 rfl 1507 hf1_7 (Rd.inok ((hH.rd 18 rfl)) (by omega) _)
          have hH := hH.subcel 18 rfl 1508 hf1_8 (Rd.inok ((hH.rd 18 rfl)) (by omega) _)
          have hH := hH.subcel 18 rfl 1509 hf1_9 (Rd.inok ((hH.rd 18 rfl)) (by omega) _)
          have hH := hH.subcel 18 rfl 1510 hf1_10 (Rd.inok ((hH.rd 18 rfl)) (by omega) _)
          have hmem := gopd_mem (xs := wrapL r) (j := k) (by omega)
          refine l_at hF rfl rfl rfl (x_move (hF.tmp 4 rfl)) ?_; clear hF; intro a hF
          refine l_at hF rfl rfl rfl (x_move (hF.tmp 6 rfl)) ?_; clear hF; intro a hF
          refine l_at hF rfl rfl rfl (x_iaddr_A Tryd.underlying43 ty55 ((hH.rd 18 rfl)) (hF.tmp 40 rfl) (hF.tmp 41 rfl) (by omega) (by omega) _) ?_; clear hF; intro a hF
          refine l_at hF rfl rfl rfl (x_loadn ty55 (hF.tmp 42 rfl) rfl (hH.holds 1499 _ rfl)) ?_; clear hF; intro a hF
          refine wpList_plain rfl fun K hK => ?_
          refine w_call hF (x_enter Tryd.func23 (by kernel_rfl) rfl (by simp only [List.map_toArray, List.map_cons, List.map_nil, hF.tmp 43 rfl] <;> rfl)) (overO_calls (o := (gopd (wrapL r) (k : Int))) _ (hH.holds 990 _ rfl) ((hH.rd 1010 rfl)) (wrap_B hb hr hmem)) rfl rfl ?_
          rintro _ w ⟨rfl, hm_⟩; refine ⟨_, rfl, ?_⟩; clear hF; intro a hF; have hH := hH.same hm_
          refine hK _ _ ?_; clear hK K
          rw [wrap_over hb hr hmem] at hF
          refine l_at hF rfl rfl rfl (x_not (hF.tmp 44 rfl)) ?_; clear hF; intro a hF
          refine wpList_nil ?_
          refine hK16 _ _ ?_
          refine wp_cond_false (hF.tmp 45 rfl) ?_
          refine wp_skip ?_
          refine hK15 _ _ ?_
          refine wp_region_lit ?_
          refine l_at hF rfl rfl rfl (x_move (hF.tmp 6 rfl)) ?_; clear hF; intro a hF
          refine l_at hF rfl rfl rfl (x_add (hF.tmp 38 rfl) rfl (w64 (by omega) (by omega))) ?_; clear hF; intro a hF
          refine l_at hF rfl rfl rfl (x_assign (hF.tmp 39 rfl)) ?_; clear hF; intro a hF
          refine wpList_nil ?_
          exact ⟨_, by omega, ⟨k + 1, rfl, by omega, ((((hF.bare.add hF 6 rfl).add hF 5 rfl).add hF 4 rfl).add hF 1 rfl), hH.sub _ (sub_cons (sub_cons (sub_cons (sub_cons (sub_nil _) 18 rfl) 1 rfl) 990 rfl) 900 rfl)⟩⟩
        · have hk37_6 := hc37; try simp only [Bool.or_eq_true, Bool.and_eq_true, Bool.or_eq_false_iff, Bool.and_eq_false_iff, Bool.not_eq_true', Bool.not_eq_false', decide_eq_true_eq, decide_eq_false_iff_not, Bool.not_true, Bool.not_false] at hc37
          refine wp_exit ?_
          refine hK11 _ _ ?_
          refine wp_seq_k fun khK17 hK17 => ?_
          refine wp_region_lit ?_
          refine l_at hF rfl rfl rfl (x_faddr Tryd.underlying45 rfl ty9 (by decide) (hF.tmp 1 rfl) rfl) ?_; clear hF; intro a hF
          refine l_at hF rfl rfl rfl (x_load1 ty9 (hF.tmp 46 rfl) (blk_cell (hH.at 1 rfl) 0 rfl)) ?_; clear hF; intro a hF
          refine wpList_plain rfl fun K hK => ?_
          refine w_call hF (x_enter Tryd.func24 (by kernel_rfl) rfl (by simp only [List.map_toArray, List.map_cons, List.map_nil, hF.tmp 47 rfl] <;> rfl)) (mark_calls (xs := r.client) _ (by have := (rightQ_parts hr); omega)) rfl rfl ?_
          rintro _ w ⟨rfl, hm_⟩; refine ⟨_, rfl, ?_⟩; clear hF; intro a hF; have hH := hH.same hm_
          refine hK _ _ ?_; clear hK K
          refine l_at hF rfl rfl rfl (x_assign (hF.tmp 48 rfl)) ?_; clear hF; intro a hF
          refine wpList_nil ?_
          refine hK17 _ _ ?_
          refine wp_seq_k fun khK18 hK18 => ?_
          refine wp_region_lit ?_
          refine l_at hF rfl rfl rfl (x_loadn ty45 (hF.tmp 1 rfl) rfl (blk_whole (hH.at 1 rfl))) ?_; clear hF; intro a hF
          refine wpList_plain rfl fun K hK => ?_
          refine w_alloc 8 hF hH rfl ty45 ?_
          clear hF hH; intro a w b8 hF hH
          refine hK _ _ ?_; clear hK K
          refine wpList_plain rfl fun K hK => ?_
          refine w_storeA 8 hH ty45 rfl (hF.tmp 8 rfl) (hF.tmp 49 rfl) rfl (by simp [Value.cells, Value.oneCell']) rfl ?_
          clear hH; intro w hH
          refine hK _ _ ?_; clear hK K
          refine wpList_nil ?_
          refine hK18 _ _ ?_
          refine wp_seq_k fun khK19 hK19 => ?_
          refine wp_region_lit ?_
          obtain ⟨fA2, fc2, hfr2, hf2_0, hf2_1, hf2_2, hf2_3, hf2_4, hf2_5, hf2_6, hf2_7, hf2_8, hf2_9, hf2_10, hfw2⟩ := rd_opd ((hH.rd 18 rfl)) (gopd_some (xs := (wrapL r)) (i := 0) (by omega) (by omega))
          have hH := hH.subrd 18 rfl 2010 hfr2 (fun _ h => h)
          have hH := hH.subcels 18 rfl 2499 hfw2 (Rd.inok ((hH.rd 18 rfl)) (by omega) _)
          have hH := hH.subcel 18 rfl 2500 hf2_0 (Rd.inok ((hH.rd 18 rfl)) (by omega) _)
          have hH := hH.subcel 18 rfl 2501 hf2_1 (Rd.inok ((hH.rd 18 rfl)) (by omega) _)
          have hH := hH.subcel 18 rfl 2502 hf2_2 (Rd.inok ((hH.rd 18 rfl)) (by omega) _)
          have hH := hH.subcel 18 rfl 2503 hf2_3 (Rd.inok ((hH.rd 18 rfl)) (by omega) _)
          have hH := hH.subcel 18 rfl 2504 hf2_4 (Rd.inok ((hH.rd 18 rfl)) (by omega) _)
          have hH := hH.subcel 18 rfl 2505 hf2_5 (Rd.inok ((hH.rd 18 rfl)) (by omega) _)
          have hH := hH.subcel 18 rfl 2506 hf2_6 (Rd.inok ((hH.rd 18 rfl)) (by omega) _)
          have hH := hH.subcel 18 rfl 2507 hf2_7 (Rd.inok ((hH.rd 18 rfl)) (by omega) _)
          have hH := hH.subcel 18 rfl 2508 hf2_8 (Rd.inok ((hH.rd 18 rfl)) (by omega) _)
          have hH := hH.subcel 18 rfl 2509 hf2_9 (Rd.inok ((hH.rd 18 rfl)) (by omega) _)
          have hH := hH.subcel 18 rfl 2510 hf2_10 (Rd.inok ((hH.rd 18 rfl)) (by omega) _)
          refine l_at hF rfl rfl rfl (x_move (hF.tmp 4 rfl)) ?_; clear hF; intro a hF
          refine l_at hF rfl rfl rfl (x_iaddr_A Tryd.underlying43 ty55 ((hH.rd 18 rfl)) (hF.tmp 50 rfl) rfl (by omega) (by omega) _) ?_; clear hF; intro a hF
          refine l_at hF rfl rfl rfl (x_loadn ty55 (hF.tmp 51 rfl) rfl (hH.holds 2499 _ rfl)) ?_; clear hF; intro a hF
          refine wpList_plain rfl fun K hK => ?_
          refine w_lit1 53 OpdE (gopd (wrapL r) 0) #[.int .i64 (gopd (wrapL r) 0).kind, .string (strOfNums (gopd (wrapL r) 0).key), .int .i64 (gopd (wrapL r) 0).step.1, .string (strOfNums (gopd (wrapL r) 0).step.2.1), .string (strOfNums (gopd (wrapL r) 0).step.2.2.1), .int .i64 (gopd (wrapL r) 0).step.2.2.2, .string (strOfNums (gopd (wrapL r) 0).timer.name), .int .i64 (gopd (wrapL r) 0).timer.ver, .int .u64 (gopd (wrapL r) 0).timer.tick, .int .u64 (gopd (wrapL r) 0).timer.every, .slice fA2 (gopd (wrapL r) 0).timer.steps.length fc2] (fun kb => okr18 kb ∨ (Value.slice Ar18 (wrapL r).length cr18).ownBlock = some kb) hF hH rfl Tryd.underlying43 ty55 (by simp only [List.map_toArray, List.map_cons, List.map_nil, hF.tmp 52 rfl] <;> rfl) (by decide) (by kernel_rfl) (opd_mk ((gopd (wrapL r) 0)) ((hH.rd 2010 rfl))) (fun kb hk => ⟨2010, _, rfl, hk⟩) ?_
          clear hF hH; intro a w b53 hF hb53_ hH
          refine hK _ _ ?_; clear hK K
          refine l_at hF rfl rfl rfl (x_faddr Tryd.underlying45 rfl ty43 (by decide) (hF.tmp 8 rfl) rfl) ?_; clear hF; intro a hF
          refine wpList_plain rfl fun K hK => ?_
          refine w_store 8 hH ty43 rfl (hF.tmp 54 rfl) (hF.tmp 53 rfl) rfl (one1 rfl rfl) (by first | decide | exact Nat.le_of_ble_eq_true rfl) ?_
          clear hH; intro w hH
          refine hK _ _ ?_; clear hK K
          refine wpList_nil ?_
          refine hK19 _ _ ?_
          refine wp_seq_k fun khK20 hK20 => ?_
          refine wp_region_lit ?_
          refine l_at hF rfl rfl rfl (x_move (hF.tmp 4 rfl)) ?_; clear hF; intro a hF
          refine l_at hF rfl rfl rfl (x_move (hF.tmp 4 rfl)) ?_; clear hF; intro a hF
          refine l_at hF rfl rfl rfl (x_len_slice Tryd.underlying43 (hF.tmp 56 rfl)) ?_; clear hF; intro a hF
          refine l_at hF rfl rfl rfl (x_sub (hF.tmp 57 rfl) rfl (w64 (by omega) (by omega))) ?_; clear hF; intro a hF
          obtain ⟨fA3, fc3, hfr3, hf3_0, hf3_1, hf3_2, hf3_3, hf3_4, hf3_5, hf3_6, hf3_7, hf3_8, hf3_9, hf3_10, hfw3⟩ := rd_opd ((hH.rd 18 rfl)) (gopd_some (xs := (wrapL r)) (i := (((wrapL r).length : Int) - 1)) (by omega) (by omega))
          have hH := hH.subrd 18 rfl 3010 hfr3 (fun _ h => h)
          have hH := hH.subcels 18 rfl 3499 hfw3 (Rd.inok ((hH.rd 18 rfl)) (by omega) _)
          have hH := hH.subcel 18 rfl 3500 hf3_0 (Rd.inok ((hH.rd 18 rfl)) (by omega) _)
          have hH := hH.subcel 18 rfl 3501 hf3_1 (Rd.inok ((hH.rd 18 rfl)) (by omega) _)
          have hH := hH.subcel 18 rfl 3502 hf3_2 (Rd.inok ((hH.rd 18 rfl)) (by omega) _)
          have hH := hH.subcel 18 rfl 3503 hf3_3 (Rd.inok ((hH.rd 18 rfl)) (by omega) _)
          have hH := hH.subcel 18 rfl 3504 hf3_4 (Rd.inok ((hH.rd 18 rfl)) (by omega) _)
          have hH := hH.subcel 18 rfl 3505 hf3_5 (Rd.inok ((hH.rd 18 rfl)) (by omega) _)
          have hH := hH.subcel 18 rfl 3506 hf3_6 (Rd.inok ((hH.rd 18 rfl)) (by omega) _)
          have hH := hH.subcel 18 rfl 3507 hf3_7 (Rd.inok ((hH.rd 18 rfl)) (by omega) _)
          have hH := hH.subcel 18 rfl 3508 hf3_8 (Rd.inok ((hH.rd 18 rfl)) (by omega) _)
          have hH := hH.subcel 18 rfl 3509 hf3_9 (Rd.inok ((hH.rd 18 rfl)) (by omega) _)
          have hH := hH.subcel 18 rfl 3510 hf3_10 (Rd.inok ((hH.rd 18 rfl)) (by omega) _)
          refine l_at hF rfl rfl rfl (x_iaddr_A Tryd.underlying43 ty55 ((hH.rd 18 rfl)) (hF.tmp 55 rfl) (hF.tmp 58 rfl) (by omega) (by omega) _) ?_; clear hF; intro a hF
          refine l_at hF rfl rfl rfl (x_loadn ty55 (hF.tmp 59 rfl) rfl (hH.holds 3499 _ rfl)) ?_; clear hF; intro a hF
          refine wpList_plain rfl fun K hK => ?_
          refine w_alloc 9 hF hH rfl ty55 ?_
          clear hF hH; intro a w b9 hF hH
          refine hK _ _ ?_; clear hK K
          refine wpList_plain rfl fun K hK => ?_
          refine w_storeA 9 hH ty55 rfl (hF.tmp 9 rfl) (hF.tmp 60 rfl) rfl (by simp [Value.cells, Value.oneCell']) rfl ?_
          clear hH; intro w hH
          refine hK _ _ ?_; clear hK K
          refine wpList_nil ?_
          refine hK20 _ _ ?_
          refine wp_seq_k fun khK21 hK21 => ?_
          refine wp_region_lit ?_
          refine wpList_plain rfl fun K hK => ?_
          refine w_call hF (x_enter Tryd.func19 (by kernel_rfl) rfl (by simp only [List.map_toArray, List.map_cons, List.map_nil] <;> rfl)) (qalive_calls _ (hH.holds 990 _ rfl)) rfl rfl ?_
          rintro _ w ⟨rfl, hm_⟩; refine ⟨_, rfl, ?_⟩; clear hF; intro a hF; have hH := hH.same hm_
          refine hK _ _ ?_; clear hK K
          refine l_at hF rfl rfl rfl (x_move (hF.tmp 61 rfl)) ?_; clear hF; intro a hF
          refine l_atg hF ((wanted_of hF rfl rfl rfl rfl).trans rfl) rfl rfl (x_move (hF.tmp 5 rfl)) ?_; clear hF; intro a hF
          refine l_at hF rfl rfl rfl (x_pickT (hF.tmp 62 rfl) rfl (hF.tmp 63 rfl)) ?_; clear hF; intro a hF
          refine l_at hF rfl rfl rfl (x_move (hF.tmp 64 rfl)) ?_; clear hF; intro a hF
          refine l_atg hF ((wanted_of hF rfl rfl rfl rfl).trans rfl) rfl rfl (x_move (hF.tmp 4 rfl)) ?_; clear hF; intro a hF
          refine l_atg hF ((wanted_of hF rfl rfl rfl rfl).trans rfl) rfl rfl (x_len_slice Tryd.underlying43 (hF.tmp 66 rfl)) ?_; clear hF; intro a hF
          refine l_atg hF ((wanted_of hF rfl rfl rfl rfl).trans rfl) rfl rfl (x_faddr Tryd.underlying45 rfl ty43 (by decide) (hF.tmp 1 rfl) rfl) ?_; clear hF; intro a hF
          refine l_atg hF ((wanted_of hF rfl rfl rfl rfl).trans rfl) rfl rfl (x_load1 ty43 (hF.tmp 68 rfl) (blk_cell (hH.at 1 rfl) 2 rfl)) ?_; clear hF; intro a hF
          refine l_atg hF ((wanted_of hF rfl rfl rfl rfl).trans rfl) rfl rfl (x_len_slice Tryd.underlying43 (hF.tmp 69 rfl)) ?_; clear hF; intro a hF
          refine l_atg hF ((wanted_of hF rfl rfl rfl rfl).trans rfl) rfl rfl (x_add (hF.tmp 70 rfl) rfl (w64 (by omega) (by omega))) ?_; clear hF; intro a hF
          refine l_atg hF ((wanted_of hF rfl rfl rfl rfl).trans rfl) rfl rfl (x_eql (hF.tmp 67 rfl) (hF.tmp 71 rfl)) ?_; clear hF; intro a hF
          rw [show decide (((wrapL r).length : Int) = ((r.ops.length : Int) + 2)) = true from decide_eq_true (by rw [hwl]; rfl)] at hF
          refine l_at hF rfl rfl rfl (x_pickT (hF.tmp 65 rfl) rfl (hF.tmp 72 rfl)) ?_; clear hF; intro a hF
          refine l_at hF rfl rfl rfl (x_move (hF.tmp 73 rfl)) ?_; clear hF; intro a hF
          refine l_atg hF ((wanted_of hF rfl rfl rfl rfl).trans rfl) rfl rfl (x_move (hF.tmp 4 rfl)) ?_; clear hF; intro a hF
          refine l_atg hF ((wanted_of hF rfl rfl rfl rfl).trans rfl) rfl rfl (x_iaddr_A Tryd.underlying43 ty55 ((hH.rd 18 rfl)) (hF.tmp 75 rfl) rfl (by omega) (by omega) _) ?_; clear hF; intro a hF
          refine l_atg hF ((wanted_of hF rfl rfl rfl rfl).trans rfl) rfl rfl (x_faddrA ((hH.rd 18 rfl)) (by omega) _ Tryd.underlying55 rfl ty50 (by decide) (hF.tmp 76 rfl) rfl) ?_; clear hF; intro a hF
          refine l_atg hF ((wanted_of hF rfl rfl rfl rfl).trans rfl) rfl rfl (x_load1 ty50 (hF.tmp 77 rfl) (hH.holds 2500 _ rfl)) ?_; clear hF; intro a hF
          refine l_atg hF ((wanted_of hF rfl rfl rfl rfl).trans rfl) rfl rfl (x_eql (hF.tmp 78 rfl) rfl) ?_; clear hF; intro a hF
          rw [show decide ((gopd (wrapL r) 0).kind = 1) = true from decide_eq_true (by rw [wrap_0 hr]; rfl)] at hF
          refine l_at hF rfl rfl rfl (x_pickT (hF.tmp 74 rfl) rfl (hF.tmp 79 rfl)) ?_; clear hF; intro a hF
          refine l_at hF rfl rfl rfl (x_move (hF.tmp 80 rfl)) ?_; clear hF; intro a hF
          refine l_atg hF ((wanted_of hF rfl rfl rfl rfl).trans rfl) rfl rfl (x_move (hF.tmp 4 rfl)) ?_; clear hF; intro a hF
          refine l_atg hF ((wanted_of hF rfl rfl rfl rfl).trans rfl) rfl rfl (x_iaddr_A Tryd.underlying43 ty55 ((hH.rd 18 rfl)) (hF.tmp 82 rfl) rfl (by omega) (by omega) _) ?_; clear hF; intro a hF
          refine l_atg hF ((wanted_of hF rfl rfl rfl rfl).trans rfl) rfl rfl (x_faddrA ((hH.rd 18 rfl)) (by omega) _ Tryd.underlying55 rfl ty9 (by decide) (hF.tmp 83 rfl) rfl) ?_; clear hF; intro a hF
          refine l_atg hF ((wanted_of hF rfl rfl rfl rfl).trans rfl) rfl rfl (x_load1 ty9 (hF.tmp 84 rfl) (hH.holds 2501 _ rfl)) ?_; clear hF; intro a hF
          refine l_atg hF ((wanted_of hF rfl rfl rfl rfl).trans rfl) rfl rfl (x_move (hF.tmp 7 rfl)) ?_; clear hF; intro a hF
          refine l_atg hF ((wanted_of hF rfl rfl rfl rfl).trans rfl) rfl rfl (x_eqn (xs := ((gopd (wrapL r) 0).key)) (ys := ([64] ++ r.client)) (hF.tmp 85 rfl) (hF.tmp 86 rfl) (wrap_B hb hr (gopd_mem (xs := wrapL r) (j := 0) (by omega))).key ((byte_c [64] (by decide) : Byte _).app hb.client)) ?_; clear hF; intro a hF
          rw [show decide ((gopd (wrapL r) 0).key = [64] ++ r.client) = true from decide_eq_true (by rw [wrap_0 hr]; rfl)] at hF
          refine l_at hF rfl rfl rfl (x_pickT (hF.tmp 81 rfl) rfl (hF.tmp 87 rfl)) ?_; clear hF; intro a hF
          refine l_at hF rfl rfl rfl (x_move (hF.tmp 88 rfl)) ?_; clear hF; intro a hF
          refine l_atg hF ((wanted_of hF rfl rfl rfl rfl).trans rfl) rfl rfl (x_move (hF.tmp 7 rfl)) ?_; clear hF; intro a hF
          refine l_atg hF ((wanted_of hF rfl rfl rfl rfl).trans rfl) rfl rfl (x_faddr Tryd.underlying45 rfl ty9 (by decide) (hF.tmp 1 rfl) rfl) ?_; clear hF; intro a hF
          refine l_atg hF ((wanted_of hF rfl rfl rfl rfl).trans rfl) rfl rfl (x_load1 ty9 (hF.tmp 91 rfl) (blk_cell (hH.at 1 rfl) 0 rfl)) ?_; clear hF; intro a hF
          refine l_atg hF ((wanted_of hF rfl rfl rfl rfl).trans rfl) rfl rfl (x_adds (xs := ([64] : List Int)) (ys := r.client) (show _ = Value.string (strOfNums ([64] : List Int)) by kernel_rfl) (hF.tmp 92 rfl) (by have := (rightQ_parts hr); simp only [List.length_cons, List.length_nil]; omega)) ?_; clear hF; intro a hF
          refine l_atg hF ((wanted_of hF rfl rfl rfl rfl).trans rfl) rfl rfl (x_eqn (xs := ([64] ++ r.client)) (ys := (([64] : List Int) ++ r.client)) (hF.tmp 90 rfl) (hF.tmp 93 rfl) ((byte_c [64] (by decide) : Byte _).app hb.client) ((byte_c [64] (by decide) : Byte _).app hb.client)) ?_; clear hF; intro a hF
          rw [show decide (([64] ++ r.client) = ([64] ++ r.client)) = true from decide_eq_true (rfl)] at hF
          refine l_at hF rfl rfl rfl (x_pickT (hF.tmp 89 rfl) rfl (hF.tmp 94 rfl)) ?_; clear hF; intro a hF
          refine l_at hF rfl rfl rfl (x_move (hF.tmp 95 rfl)) ?_; clear hF; intro a hF
          refine l_atg hF ((wanted_of hF rfl rfl rfl rfl).trans rfl) rfl rfl (x_faddr Tryd.underlying55 rfl ty50 (by decide) (hF.tmp 9 rfl) rfl) ?_; clear hF; intro a hF
          refine l_atg hF ((wanted_of hF rfl rfl rfl rfl).trans rfl) rfl rfl (x_load1 ty50 (hF.tmp 97 rfl) (blk_cell (hH.at 9 rfl) 0 rfl)) ?_; clear hF; intro a hF
          refine l_atg hF ((wanted_of hF rfl rfl rfl rfl).trans rfl) rfl rfl (x_eql (hF.tmp 98 rfl) rfl) ?_; clear hF; intro a hF
          rw [show decide ((gopd (wrapL r) (((wrapL r).length : Int) - 1)).kind = 2) = true from decide_eq_true (by rw [wrap_last hr]; rfl)] at hF
          refine l_at hF rfl rfl rfl (x_pickT (hF.tmp 96 rfl) rfl (hF.tmp 99 rfl)) ?_; clear hF; intro a hF
          refine l_at hF rfl rfl rfl (x_move (hF.tmp 100 rfl)) ?_; clear hF; intro a hF
          refine l_atg hF ((wanted_of hF rfl rfl rfl rfl).trans rfl) rfl rfl (x_faddr Tryd.underlying55 rfl ty53 (by decide) (hF.tmp 9 rfl) rfl) ?_; clear hF; intro a hF
          refine l_atg hF ((wanted_of hF rfl rfl rfl rfl).trans rfl) rfl rfl (x_faddr Tryd.underlying53 rfl ty51 (by decide) (hF.tmp 102 rfl) rfl) ?_; clear hF; intro a hF
          refine l_atg hF ((wanted_of hF rfl rfl rfl rfl).trans rfl) rfl rfl (x_load1 ty51 (hF.tmp 103 rfl) (blk_cell (hH.at 9 rfl) 2 rfl)) ?_; clear hF; intro a hF
          refine l_atg hF ((wanted_of hF rfl rfl rfl rfl).trans rfl) rfl rfl (x_eql (hF.tmp 104 rfl) rfl) ?_; clear hF; intro a hF
          rw [show decide ((gopd (wrapL r) (((wrapL r).length : Int) - 1)).step.1 = 1) = true from decide_eq_true (by rw [wrap_last hr]; rfl)] at hF
          refine l_at hF rfl rfl rfl (x_pickT (hF.tmp 101 rfl) rfl (hF.tmp 105 rfl)) ?_; clear hF; intro a hF
          refine l_at hF rfl rfl rfl (x_move (hF.tmp 106 rfl)) ?_; clear hF; intro a hF
          refine l_atg hF ((wanted_of hF rfl rfl rfl rfl).trans rfl) rfl rfl (x_faddr Tryd.underlying55 rfl ty53 (by decide) (hF.tmp 9 rfl) rfl) ?_; clear hF; intro a hF
          refine l_atg hF ((wanted_of hF rfl rfl rfl rfl).trans rfl) rfl rfl (x_faddr Tryd.underlying53 rfl ty9 (by decide) (hF.tmp 108 rfl) rfl) ?_; clear hF; intro a hF
          refine l_atg hF ((wanted_of hF rfl rfl rfl rfl).trans rfl) rfl rfl (x_load1 ty9 (hF.tmp 109 rfl) (blk_cell (hH.at 9 rfl) 3 rfl)) ?_; clear hF; intro a hF
          refine l_atg hF ((wanted_of hF rfl rfl rfl rfl).trans rfl) rfl rfl (x_move (hF.tmp 7 rfl)) ?_; clear hF; intro a hF
          refine l_atg hF ((wanted_of hF rfl rfl rfl rfl).trans rfl) rfl rfl (x_eqn (xs := ((gopd (wrapL r) (((wrapL r).length : Int) - 1)).step.2.1)) (ys := ([64] ++ r.client)) (hF.tmp 110 rfl) (hF.tmp 111 rfl) (by rw [wrap_last hr]; exact ((byte_c [64] (by decide) : Byte _).app hb.client)) ((byte_c [64] (by decide) : Byte _).app hb.client)) ?_; clear hF; intro a hF
          rw [show decide ((gopd (wrapL r) (((wrapL r).length : Int) - 1)).step.2.1 = [64] ++ r.client) = true from decide_eq_true (by rw [wrap_last hr]; rfl)] at hF
          refine l_at hF rfl rfl rfl (x_pickT (hF.tmp 107 rfl) rfl (hF.tmp 112 rfl)) ?_; clear hF; intro a hF
          refine l_at hF rfl rfl rfl (x_move (hF.tmp 113 rfl)) ?_; clear hF; intro a hF
          refine l_atg hF ((wanted_of hF rfl rfl rfl rfl).trans rfl) rfl rfl (x_loadn ty45 (hF.tmp 8 rfl) rfl (blk_whole (hH.at 8 rfl))) ?_; clear hF; intro a hF
          refine wpList_on ((wanted_of hF rfl rfl rfl rfl).trans rfl) fun K hK => ?_
          refine w_call hF (x_enter Tryd.func21 (by kernel_rfl) rfl (by simp only [List.map_toArray, List.map_cons, List.map_nil, hF.tmp 115 rfl] <;> rfl)) (rightQ_calls (r := badQ r) _ (hH.holds 990 _ rfl) ((hH.rd 53 rfl)) (bad_B hb hr)) rfl rfl ?_
          rintro _ w ⟨rfl, hm_⟩; refine ⟨_, rfl, ?_⟩; clear hF; intro a hF; have hH := hH.same hm_
          refine hK _ _ ?_; clear hK K
          refine l_atg hF ((wanted_of hF rfl rfl rfl rfl).trans rfl) rfl rfl (x_not (hF.tmp 116 rfl)) ?_; clear hF; intro a hF
          rw [bad_no hr] at hF
          refine l_at hF rfl rfl rfl (x_pickT (hF.tmp 114 rfl) rfl (hF.tmp 117 rfl)) ?_; clear hF; intro a hF
          refine l_at hF rfl rfl rfl (x_assign (hF.tmp 118 rfl)) ?_; clear hF; intro a hF
          refine wpList_nil ?_
          refine hK21 _ _ ?_
          refine wp_ret ?_
          try simp only [Exit.then, Exit.inBlock]
          exact fin_ret hF (res1 (v := .bool true) hF rfl rfl) ⟨rfl, hH.mods⟩

end Go.Proofs.YtiiklnghnifmjaaDoor.Act
