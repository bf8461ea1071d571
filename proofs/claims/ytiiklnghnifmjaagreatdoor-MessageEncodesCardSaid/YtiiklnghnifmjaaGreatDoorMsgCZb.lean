/- Whether messages are alike, walked. -/
import Derived.Test.YtiiklnghnifmjaaGreatDoorMsgBZb
import Derived.Test.YtiiklnghnifmjaaGreatDoorSamDZb
import Derived.Test.YtiiklnghnifmjaaGreatDoorSeqZb
set_option linter.unusedVariables false
set_option maxRecDepth 100000
set_option maxHeartbeats 1000000
set_option linter.unusedSimpArgs false
namespace Go.Proofs.YtiiklnghnifmjaaGreatDoor.Act
open Go.RowKit Go.Proofs.YtiiklnghnifmjaaGreatDoor.Sx Go.Proofs.YtiiklnghnifmjaaGreatDoor.Cod Go.Proofs.YtiiklnghnifmjaaGreatDoor.Num
theorem st_eqD {w : World} {x y : StepD} (hx0 : Byte x.2.1) (hy0 : Byte y.2.1) (hx1 : Byte x.2.2.1) (hy1 : Byte y.2.2.1) : (Op.eqFields 9999 #[.int .i64 x.1, .string (strOfNums x.2.1), .string (strOfNums x.2.2.1), .int .i64 x.2.2.2] #[.int .i64 y.1, .string (strOfNums y.2.1), .string (strOfNums y.2.2.1), .int .i64 y.2.2.2] (Tryz.prog.fieldsOf 91).toList).run Tryz.prog w = .ok (decide (x = y)) w := by
 have key : (x = y) = (x.1 = y.1 ∧ x.2.1 = y.2.1 ∧ x.2.2.1 = y.2.2.1 ∧ x.2.2.2 = y.2.2.2) := propext (by obtain ⟨x0, x1, x2, x3⟩ := x; obtain ⟨y0, y1, y2, y3⟩ := y; simp)
 have key2 : decide (x = y) = decide (x.1 = y.1 ∧ x.2.1 = y.2.1 ∧ x.2.2.1 = y.2.2.1 ∧ x.2.2.2 = y.2.2.2) := by simp only [key]
 rw [key2]
 simp only [Program.fieldsOf, Tryz.underlying91]
 simp [Op.eqFields, part, go_sem, tl_eq]
 have hs0 : (strOfNums x.2.1 = strOfNums y.2.1) = (x.2.1 = y.2.1) := propext ⟨sn_inj _ _ hx0 hy0, fun h => by rw [h]⟩
 have hs1 : (strOfNums x.2.2.1 = strOfNums y.2.2.1) = (x.2.2.1 = y.2.2.1) := propext ⟨sn_inj _ _ hx1 hy1, fun h => by rw [h]⟩
 simp only [hs0, hs1]
 by_cases h0 : x.1 = y.1 <;> by_cases h1 : x.2.1 = y.2.1 <;> by_cases h2 : x.2.2.1 = y.2.2.1 <;> by_cases h3 : x.2.2.2 = y.2.2.2 <;> simp [h0, h1, h2, h3]
theorem st_nes {dst : Option Tmp} {ty t' : TypeId} {pos : String} {af : Array Edge} {gg : Option (Nat × Bool)} {a : Act} {w : World} {u v : Operand} {x y : StepD} (hx0 : Byte x.2.1) (hy0 : Byte y.2.1) (hx1 : Byte x.2.2.1) (hy1 : Byte y.2.2.1) (hu : a.eval u = .agg #[.int .i64 x.1, .string (strOfNums x.2.1), .string (strOfNums x.2.2.1), .int .i64 x.2.2.2]) (hv : a.eval v = .agg #[.int .i64 y.1, .string (strOfNums y.2.1), .string (strOfNums y.2.2.1), .int .i64 y.2.2.2]) : At Tryz.prog ⟨dst, .binOp .neq 91 u v t', ty, pos, af, gg⟩ a w (.bool (!decide (x = y))) :=
 x_neS (by kernel_rfl) (by kernel_rfl) (by kernel_rfl) hu hv (st_eqD hx0 hy0 hx1 hy1)
theorem r9same_calls (w0 : World) {ok1 : Nat → Prop} {A1 : Option Addr} {xs1 : List StepD} {c1 : Nat} (hr1 : Rd StE w0 ok1 A1 xs1 c1) {ok2 : Nat → Prop} {A2 : Option Addr} {xs2 : List StepD} {c2 : Nat} (hr2 : Rd StE w0 ok2 A2 xs2 c2) (hb1 : ∀ s ∈ xs1, StepB s) (hb2 : ∀ s ∈ xs2, StepB s) : Calls Tryz.prog 107 #[.slice A1 xs1.length c1, .slice A2 xs2.length c2] w0 fun e w' => e = .returned (.bool (decide (xs1 = xs2))) ∧ Mods (fun _ => False) w0 w' := by
 refine cow Tryz.func107 rfl Tryz.ntmps107 (Nat.le_of_ble_eq_true rfl) fun a F => ?_
 have H := Hp.nil (fun _ => False) w0
 have H := H.arg 901 hr1.all (fun _ h => ⟨h, fun h => h⟩)
 have hle901 := hr1.le; unfold maxLen at hle901
 have H := H.arg 902 hr2.all (fun _ h => ⟨h, fun h => h⟩)
 have hle902 := hr2.le; unfold maxLen at hle902
 refine sr fun _ hK1 => ?_
 refine la F rfl (x_assign rfl) fun a F => ?_
 refine wn (hK1 _ _ ?_)
 refine wp_seq_k fun _ hK2 => ?_
 refine sr fun _ hK3 => ?_
 refine la F rfl (x_move (F.t 0 rfl)) fun a F => ?_
 refine la F rfl (x_len_slice Tryz.underlying62 (F.t 6 rfl)) fun a F => ?_
 refine la F rfl (x_move (F.t 1 rfl)) fun a F => ?_
 refine la F rfl (x_len_slice Tryz.underlying62 (F.t 8 rfl)) fun a F => ?_
 refine la F rfl (x_neq (F.t 7 rfl) (F.t 9 rfl)) fun a F => ?_
 refine wn (hK3 _ _ ?_)
 refine wp_cond_split (F.t 10 rfl) (fun hc10 => ?_) (fun hc10 => ?_)
 ·have hk10_1 := hc10; try simp only [bL] at hc10
  have hz := same_len (xs := xs1) (ys := xs2) (by omega)
  refine sr fun _ hK4 => ?_
  refine la F rfl (x_assign rfl) fun a F => ?_
  refine wn (hK4 _ _ ?_)
  refine wp_ret ?_
  try simp only [Exit.then, Exit.inBlock]
  exact fin_ret F (res1 F rfl rfl) ⟨by rw [hz] <;> rfl, H.mods⟩
 have hk10_2 := hc10; try simp only [bL] at hc10
 have hll : (xs1.length : Int) = xs2.length := by omega
 refine wp_skip ?_
 refine hK2 _ _ ?_
 refine wp_seq_k fun _ hK5 => ?_
 refine sr fun _ hK6 => ?_
 refine la F rfl (x_assign rfl) fun a F => ?_
 refine wn (hK6 _ _ ?_)
 refine wp_block ?_
 refine wp_loop_ghost (fun n_ a w => ∃ k : Nat, n_ = xs1.length - k ∧ (k ≤ xs1.length) ∧ (xs1.take k = xs2.take k) ∧ Fr 26 a [(0, .slice A1 xs1.length c1), (1, .slice A2 xs2.length c2), (5, .int .i64 (k : Int))] ∧ Hp (fun _ => False) w0 w [(901, .rd_ StE A1 xs1 c1 (fun k => k < w0.heap.size)), (902, .rd_ StE A2 xs2 c2 (fun k => k < w0.heap.size))]) (xs1.length) ?_ ?_
 ·exact ⟨0, rfl, by omega, rfl, (((F.bare.add F 5 rfl).add F 1 rfl).add F 0 rfl), H.sub _ (sub_cons (sub_cons (sub_nil _) 902 rfl) 901 rfl)⟩
 rintro _ a w ⟨k, rfl, hq0_0, hq0_1, F, H⟩
 refine wp_seq_k fun _ hK7 => ?_
 refine sr fun _ hK8 => ?_
 refine la F rfl (x_move (F.t 5 rfl)) fun a F => ?_
 refine la F rfl (x_move (F.t 0 rfl)) fun a F => ?_
 refine la F rfl (x_len_slice Tryz.underlying62 (F.t 12 rfl)) fun a F => ?_
 refine la F rfl (x_lss (F.t 11 rfl) (F.t 13 rfl)) fun a F => ?_
 refine wn (hK8 _ _ ?_)
 refine wp_cond_split (F.t 14 rfl) (fun hc14 => ?_) (fun hc14 => ?_)
 ·have hk14_3 := hc14; try simp only [bL] at hc14
  obtain ⟨hf1_0, hf1_1, hf1_2, hf1_3, hfw1⟩ := rd_st ((H.rd 901 rfl)) (gst_some (xs := xs1) (i := (k : Int)) (by omega) (by omega))
  have H := H.subcels 901 rfl 1499 hfw1 (Rd.inok ((H.rd 901 rfl)) (by omega) _)
  have H := H.subcel 901 rfl 1500 hf1_0 (Rd.inok ((H.rd 901 rfl)) (by omega) _)
  have H := H.subcel 901 rfl 1501 hf1_1 (Rd.inok ((H.rd 901 rfl)) (by omega) _)
  have H := H.subcel 901 rfl 1502 hf1_2 (Rd.inok ((H.rd 901 rfl)) (by omega) _)
  have H := H.subcel 901 rfl 1503 hf1_3 (Rd.inok ((H.rd 901 rfl)) (by omega) _)
  obtain ⟨hf2_0, hf2_1, hf2_2, hf2_3, hfw2⟩ := rd_st ((H.rd 902 rfl)) (gst_some (xs := xs2) (i := (k : Int)) (by omega) (by omega))
  have H := H.subcels 902 rfl 2499 hfw2 (Rd.inok ((H.rd 902 rfl)) (by omega) _)
  have H := H.subcel 902 rfl 2500 hf2_0 (Rd.inok ((H.rd 902 rfl)) (by omega) _)
  have H := H.subcel 902 rfl 2501 hf2_1 (Rd.inok ((H.rd 902 rfl)) (by omega) _)
  have H := H.subcel 902 rfl 2502 hf2_2 (Rd.inok ((H.rd 902 rfl)) (by omega) _)
  have H := H.subcel 902 rfl 2503 hf2_3 (Rd.inok ((H.rd 902 rfl)) (by omega) _)
  have hm1 := gst_mem (xs := xs1) (j := k) (by omega)
  have hm2 := gst_mem (xs := xs2) (j := k) (by omega)
  refine wp_skip ?_
  refine hK7 _ _ ?_
  refine wp_seq_k fun _ hK9 => ?_
  refine wp_block ?_
  refine wp_seq_k fun _ hK10 => ?_
  refine r_start [(901, .rd_ StE A1 xs1 c1 (fun k => k < w0.heap.size)), (902, .rd_ StE A2 xs2 c2 (fun k => k < w0.heap.size)), (1499, .cels (adr A1 (Int.toNat (k : Int) * 4)) #[.int .i64 (gst xs1 (k : Int)).1, .string (strOfNums (gst xs1 (k : Int)).2.1), .string (strOfNums (gst xs1 (k : Int)).2.2.1), .int .i64 (gst xs1 (k : Int)).2.2.2]), (1500, .cel (adr A1 (Int.toNat (k : Int) * 4)) (.int .i64 (gst xs1 (k : Int)).1)), (1501, .cel (adr A1 (Int.toNat (k : Int) * 4 + 1)) (.string (strOfNums (gst xs1 (k : Int)).2.1))), (1502, .cel (adr A1 (Int.toNat (k : Int) * 4 + 2)) (.string (strOfNums (gst xs1 (k : Int)).2.2.1))), (1503, .cel (adr A1 (Int.toNat (k : Int) * 4 + 3)) (.int .i64 (gst xs1 (k : Int)).2.2.2)), (2499, .cels (adr A2 (Int.toNat (k : Int) * 4)) #[.int .i64 (gst xs2 (k : Int)).1, .string (strOfNums (gst xs2 (k : Int)).2.1), .string (strOfNums (gst xs2 (k : Int)).2.2.1), .int .i64 (gst xs2 (k : Int)).2.2.2]), (2500, .cel (adr A2 (Int.toNat (k : Int) * 4)) (.int .i64 (gst xs2 (k : Int)).1)), (2501, .cel (adr A2 (Int.toNat (k : Int) * 4 + 1)) (.string (strOfNums (gst xs2 (k : Int)).2.1))), (2502, .cel (adr A2 (Int.toNat (k : Int) * 4 + 2)) (.string (strOfNums (gst xs2 (k : Int)).2.2.1))), (2503, .cel (adr A2 (Int.toNat (k : Int) * 4 + 3)) (.int .i64 (gst xs2 (k : Int)).2.2.2))] (by kernel_rfl) H fun H => ?_
  have hS : SL [(901, .rd_ StE A1 xs1 c1 (fun k => k < w0.heap.size)), (902, .rd_ StE A2 xs2 c2 (fun k => k < w0.heap.size)), (1499, .cels (adr A1 (Int.toNat (k : Int) * 4)) #[.int .i64 (gst xs1 (k : Int)).1, .string (strOfNums (gst xs1 (k : Int)).2.1), .string (strOfNums (gst xs1 (k : Int)).2.2.1), .int .i64 (gst xs1 (k : Int)).2.2.2]), (1500, .cel (adr A1 (Int.toNat (k : Int) * 4)) (.int .i64 (gst xs1 (k : Int)).1)), (1501, .cel (adr A1 (Int.toNat (k : Int) * 4 + 1)) (.string (strOfNums (gst xs1 (k : Int)).2.1))), (1502, .cel (adr A1 (Int.toNat (k : Int) * 4 + 2)) (.string (strOfNums (gst xs1 (k : Int)).2.2.1))), (1503, .cel (adr A1 (Int.toNat (k : Int) * 4 + 3)) (.int .i64 (gst xs1 (k : Int)).2.2.2)), (2499, .cels (adr A2 (Int.toNat (k : Int) * 4)) #[.int .i64 (gst xs2 (k : Int)).1, .string (strOfNums (gst xs2 (k : Int)).2.1), .string (strOfNums (gst xs2 (k : Int)).2.2.1), .int .i64 (gst xs2 (k : Int)).2.2.2]), (2500, .cel (adr A2 (Int.toNat (k : Int) * 4)) (.int .i64 (gst xs2 (k : Int)).1)), (2501, .cel (adr A2 (Int.toNat (k : Int) * 4 + 1)) (.string (strOfNums (gst xs2 (k : Int)).2.1))), (2502, .cel (adr A2 (Int.toNat (k : Int) * 4 + 2)) (.string (strOfNums (gst xs2 (k : Int)).2.2.1))), (2503, .cel (adr A2 (Int.toNat (k : Int) * 4 + 3)) (.int .i64 (gst xs2 (k : Int)).2.2.2))] _ := SL.of H (sub_cons (sub_cons (sub_cons (sub_cons (sub_cons (sub_cons (sub_cons (sub_cons (sub_cons (sub_cons (sub_cons (sub_cons (sub_nil _) 2503 rfl) 2502 rfl) 2501 rfl) 2500 rfl) 2499 rfl) 1503 rfl) 1502 rfl) 1501 rfl) 1500 rfl) 1499 rfl) 902 rfl) 901 rfl)
  refine rT 0 F rfl (by kernel_rfl) pq rfl hS (fun w hS => x_move (F.t 0 rfl)) rfl fun a F => ?_
  refine rT 1 F rfl (by kernel_rfl) pq rfl hS (fun w hS => x_move (F.t 5 rfl)) rfl fun a F => ?_
  refine rT 2 F rfl (by kernel_rfl) pq rfl hS (fun w hS => x_iaddr_A Tryz.underlying62 ty91 ((H.rd 901 rfl)) (F.t 17 rfl) (F.t 18 rfl) (by omega) (by omega) _) rfl fun a F => ?_
  refine rT 3 F rfl (by kernel_rfl) pq rfl hS (fun w hS => x_loadn ty91 (F.t 19 rfl) rfl (hS 1499 _ rfl)) rfl fun a F => ?_
  refine rT 4 F rfl (by kernel_rfl) pq rfl hS (fun w hS => x_move (F.t 1 rfl)) rfl fun a F => ?_
  refine rT 5 F rfl (by kernel_rfl) pq rfl hS (fun w hS => x_move (F.t 5 rfl)) rfl fun a F => ?_
  refine rT 6 F rfl (by kernel_rfl) pq rfl hS (fun w hS => x_iaddr_A Tryz.underlying62 ty91 ((H.rd 902 rfl)) (F.t 21 rfl) (F.t 22 rfl) (by omega) (by omega) _) rfl fun a F => ?_
  refine rT 7 F rfl (by kernel_rfl) pq rfl hS (fun w hS => x_loadn ty91 (F.t 23 rfl) rfl (hS 2499 _ rfl)) rfl fun a F => ?_
  refine rT 8 F rfl (by kernel_rfl) pq rfl hS (fun w hS => st_nes (x := (gst xs1 (k : Int))) (y := (gst xs2 (k : Int))) (hb1 _ hm1).1 (hb2 _ hm2).1 (hb1 _ hm1).2.1 (hb2 _ hm2).2.1 (F.t 20 rfl) (F.t 24 rfl)) rfl fun a F => ?_
  refine r_end (by kernel_rfl) ?_; clear hS
  refine hK10 _ _ ?_
  refine wp_cond_split (F.t 25 rfl) (fun hc25 => ?_) (fun hc25 => ?_)
  ·have hk25_4 := hc25; try simp only [bL] at hc25
   have hz := same_at (xs := xs1) (ys := xs2) (fun l => gst l (k : Int)) hc25
   refine sr fun _ hK11 => ?_
   refine la F rfl (x_assign rfl) fun a F => ?_
   refine wn (hK11 _ _ ?_)
   refine wp_ret ?_
   try simp only [Exit.then, Exit.inBlock]
   exact fin_ret F (res1 F rfl rfl) ⟨by rw [hz] <;> rfl, H.mods⟩
  have hk25_5 := hc25; try simp only [bL] at hc25
  refine wp_skip ?_
  refine hK9 _ _ ?_
  refine wp_region_lit ?_
  refine la F rfl (x_move (F.t 5 rfl)) fun a F => ?_
  refine la F rfl (x_add (F.t 15 rfl) rfl (w64 (by omega) (by omega))) fun a F => ?_
  refine la F rfl (x_assign (F.t 16 rfl)) fun a F => ?_
  refine wpList_nil ?_
  exact ⟨_, by omega, ⟨k + 1, rfl, by omega, same_step (gst_some (xs := xs1) (i := (k : Int)) (by omega) (by omega)) (gst_some (xs := xs2) (i := (k : Int)) (by omega) (by omega)) hq0_1 hc25, (((F.bare.add F 5 rfl).add F 1 rfl).add F 0 rfl), H.sub _ (sub_cons (sub_cons (sub_nil _) 902 rfl) 901 rfl)⟩⟩
 have hk14_6 := hc14; try simp only [bL] at hc14
 have hz := same_yes (xs := xs1) (ys := xs2) (k := k) (by omega) hll hq0_1
 refine wp_exit ?_
 refine hK5 _ _ ?_
 refine sr fun _ hK12 => ?_
 refine la F rfl (x_assign rfl) fun a F => ?_
 refine wn (hK12 _ _ ?_)
 refine wp_ret ?_
 try simp only [Exit.then, Exit.inBlock]
 exact fin_ret F (res1 F rfl rfl) ⟨by rw [hz] <;> rfl, H.mods⟩
theorem r10same_calls (w0 : World) {p q : TimerD} {okp0 : Nat → Prop} {Ap0 : Option Addr} {cp0 : Nat} (hrp0 : Rd StE w0 okp0 Ap0 p.steps cp0) {okq0 : Nat → Prop} {Aq0 : Option Addr} {cq0 : Nat} (hrq0 : Rd StE w0 okq0 Aq0 q.steps cq0) (ha : TimerB p) (hb : TimerB q) : Calls Tryz.prog 89 #[.agg #[.string (strOfNums p.name), .int .i64 p.ver, .int .u64 p.tick, .int .u64 p.every, .slice Ap0 p.steps.length cp0], .agg #[.string (strOfNums q.name), .int .i64 q.ver, .int .u64 q.tick, .int .u64 q.every, .slice Aq0 q.steps.length cq0]] w0 fun e w' => e = .returned (.bool (decide (p = q))) ∧ Mods (fun _ => False) w0 w' := by
 refine cow Tryz.func89 rfl Tryz.ntmps89 (Nat.le_of_ble_eq_true rfl) fun a F => ?_
 have H := Hp.nil (fun _ => False) w0
 have H := H.arg 900 hrp0.all (fun _ h => ⟨h, fun h => h⟩)
 have hlep0 := hrp0.le; unfold maxLen at hlep0
 have H := H.arg 950 hrq0.all (fun _ h => ⟨h, fun h => h⟩)
 have hleq0 := hrq0.le; unfold maxLen at hleq0
 refine sr fun _ hK1 => ?_
 refine lp rfl ?_
 refine w_box 2 F H rfl (F.t 0 rfl) ?_
 clear F H; intro a w b2 F H
 refine lp rfl ?_
 refine w_box 3 F H rfl (F.t 1 rfl) ?_
 clear F H; intro a w b3 F H
 refine la F rfl (x_assign rfl) fun a F => ?_
 refine wn (hK1 _ _ ?_)
 refine sr fun _ hK2 => ?_
 refine la F rfl (x_faddr Tryz.underlying64 rfl ty62 (by decide) (F.t 2 rfl) rfl) fun a F => ?_
 refine la F rfl (x_load1 ty62 (F.t 6 rfl) (blk_cell (H.at 2 rfl) 4 rfl)) fun a F => ?_
 refine la F rfl (x_faddr Tryz.underlying64 rfl ty62 (by decide) (F.t 3 rfl) rfl) fun a F => ?_
 refine la F rfl (x_load1 ty62 (F.t 8 rfl) (blk_cell (H.at 3 rfl) 4 rfl)) fun a F => ?_
 refine lp rfl ?_
 refine w_call F (x_enter Tryz.func107 (by kernel_rfl) rfl (by simp only [bM, F.t 7 rfl, F.t 9 rfl] <;> rfl)) (r9same_calls _ ((H.rd 900 rfl)) ((H.rd 950 rfl)) ha.steps hb.steps) rfl rfl ?_
 rintro _ w ⟨rfl, hm_⟩; refine ⟨_, rfl, ?_⟩; clear F; intro a F; have H := H.same hm_
 refine la F rfl (x_assign (F.t 10 rfl)) fun a F => ?_
 refine wn (hK2 _ _ ?_)
 refine sr fun _ hK3 => ?_
 refine la F rfl (x_faddr Tryz.underlying64 rfl ty9 (by decide) (F.t 2 rfl) rfl) fun a F => ?_
 refine la F rfl (x_load1 ty9 (F.t 11 rfl) (blk_cell (H.at 2 rfl) 0 rfl)) fun a F => ?_
 refine la F rfl (x_faddr Tryz.underlying64 rfl ty9 (by decide) (F.t 3 rfl) rfl) fun a F => ?_
 refine la F rfl (x_load1 ty9 (F.t 13 rfl) (blk_cell (H.at 3 rfl) 0 rfl)) fun a F => ?_
 refine la F rfl (x_eqn (xs := p.name) (ys := q.name) (F.t 12 rfl) (F.t 14 rfl) ha.name hb.name) fun a F => ?_
 refine la F rfl (x_move (F.t 15 rfl)) fun a F => ?_
 refine split_bool F 16 rfl (fun hb16 => ?_) (fun hb16 => ?_)
 ·have hc16 := hb16; try simp only [bL] at hc16
  refine lgs F hb16 rfl (x_faddr Tryz.underlying64 rfl ty3 (by decide) (F.t 2 rfl) rfl) fun a F => ?_
  refine lgs F hb16 rfl (x_load1 ty3 (F.t 17 rfl) (blk_cell (H.at 2 rfl) 1 rfl)) fun a F => ?_
  refine lgs F hb16 rfl (x_faddr Tryz.underlying64 rfl ty3 (by decide) (F.t 3 rfl) rfl) fun a F => ?_
  refine lgs F hb16 rfl (x_load1 ty3 (F.t 19 rfl) (blk_cell (H.at 3 rfl) 1 rfl)) fun a F => ?_
  refine lgs F hb16 rfl (x_eql (F.t 18 rfl) (F.t 20 rfl)) fun a F => ?_
  refine la F rfl (x_pickT (F.t 16 rfl) hb16 (F.t 21 rfl)) fun a F => ?_
  refine la F rfl (x_move (F.t 22 rfl)) fun a F => ?_
  refine split_bool F 23 rfl (fun hb23 => ?_) (fun hb23 => ?_)
  ·have hc23 := hb23; try simp only [bL] at hc23
   refine lgs F hb23 rfl (x_faddr Tryz.underlying64 rfl ty59 (by decide) (F.t 2 rfl) rfl) fun a F => ?_
   refine lgs F hb23 rfl (x_load1 ty59 (F.t 24 rfl) (blk_cell (H.at 2 rfl) 2 rfl)) fun a F => ?_
   refine lgs F hb23 rfl (x_faddr Tryz.underlying64 rfl ty59 (by decide) (F.t 3 rfl) rfl) fun a F => ?_
   refine lgs F hb23 rfl (x_load1 ty59 (F.t 26 rfl) (blk_cell (H.at 3 rfl) 2 rfl)) fun a F => ?_
   refine lgs F hb23 rfl (x_eql (F.t 25 rfl) (F.t 27 rfl)) fun a F => ?_
   refine la F rfl (x_pickT (F.t 23 rfl) hb23 (F.t 28 rfl)) fun a F => ?_
   refine la F rfl (x_move (F.t 29 rfl)) fun a F => ?_
   refine split_bool F 30 rfl (fun hb30 => ?_) (fun hb30 => ?_)
   ·have hc30 := hb30; try simp only [bL] at hc30
    refine lgs F hb30 rfl (x_faddr Tryz.underlying64 rfl ty59 (by decide) (F.t 2 rfl) rfl) fun a F => ?_
    refine lgs F hb30 rfl (x_load1 ty59 (F.t 31 rfl) (blk_cell (H.at 2 rfl) 3 rfl)) fun a F => ?_
    refine lgs F hb30 rfl (x_faddr Tryz.underlying64 rfl ty59 (by decide) (F.t 3 rfl) rfl) fun a F => ?_
    refine lgs F hb30 rfl (x_load1 ty59 (F.t 33 rfl) (blk_cell (H.at 3 rfl) 3 rfl)) fun a F => ?_
    refine lgs F hb30 rfl (x_eql (F.t 32 rfl) (F.t 34 rfl)) fun a F => ?_
    refine la F rfl (x_pickT (F.t 30 rfl) hb30 (F.t 35 rfl)) fun a F => ?_
    refine la F rfl (x_move (F.t 36 rfl)) fun a F => ?_
    refine split_bool F 37 rfl (fun hb37 => ?_) (fun hb37 => ?_)
    ·have hc37 := hb37; try simp only [bL] at hc37
     refine lgs F hb37 rfl (x_move (F.t 5 rfl)) fun a F => ?_
     refine la F rfl (x_pickT (F.t 37 rfl) hb37 (F.t 38 rfl)) fun a F => ?_
     refine la F rfl (x_assign (F.t 39 rfl)) fun a F => ?_
     refine wn (hK3 _ _ ?_)
     refine wp_ret ?_
     try simp only [Exit.then, Exit.inBlock]
     have hv : (decide (p.steps = q.steps)) = decide (p = q) := by rw [Bool.eq_iff_iff]; simp only [decide_eq_true_iff, tim_same]; first | (simp [hc16, hc23, hc30, hc37]; done) | (simp [hc16, hc23, hc30, hc37]; omega)
     exact fin_ret F (res1 (v := .bool (decide (p.steps = q.steps))) F rfl rfl) ⟨by rw [hv], H.mods⟩
    have hc37 := hb37; try simp only [bL] at hc37
    refine los F hb37 rfl fun a F => ?_
    refine la F rfl (x_pickF (F.t 37 rfl) hb37 rfl) fun a F => ?_
    refine la F rfl (x_assign (F.t 39 rfl)) fun a F => ?_
    refine wn (hK3 _ _ ?_)
    refine wp_ret ?_
    try simp only [Exit.then, Exit.inBlock]
    have hv : false = decide (p = q) := by rw [Bool.eq_iff_iff]; simp only [decide_eq_true_iff, tim_same]; first | (simp [hc16, hc23, hc30, hc37]; done) | (simp [hc16, hc23, hc30, hc37]; omega)
    exact fin_ret F (res1 (v := .bool false) F rfl rfl) ⟨by rw [hv], H.mods⟩
   have hc30 := hb30; try simp only [bL] at hc30
   refine los F hb30 rfl fun a F => ?_
   refine los F hb30 rfl fun a F => ?_
   refine los F hb30 rfl fun a F => ?_
   refine los F hb30 rfl fun a F => ?_
   refine los F hb30 rfl fun a F => ?_
   refine la F rfl (x_pickF (F.t 30 rfl) hb30 rfl) fun a F => ?_
   refine la F rfl (x_move (F.t 36 rfl)) fun a F => ?_
   refine lo F rfl fun a F => ?_
   refine la F rfl (x_pickF (F.t 37 rfl) rfl rfl) fun a F => ?_
   refine la F rfl (x_assign (F.t 39 rfl)) fun a F => ?_
   refine wn (hK3 _ _ ?_)
   refine wp_ret ?_
   try simp only [Exit.then, Exit.inBlock]
   have hv : false = decide (p = q) := by rw [Bool.eq_iff_iff]; simp only [decide_eq_true_iff, tim_same]; first | (simp [hc16, hc23, hc30]; done) | (simp [hc16, hc23, hc30]; omega)
   exact fin_ret F (res1 (v := .bool false) F rfl rfl) ⟨by rw [hv], H.mods⟩
  have hc23 := hb23; try simp only [bL] at hc23
  refine los F hb23 rfl fun a F => ?_
  refine los F hb23 rfl fun a F => ?_
  refine los F hb23 rfl fun a F => ?_
  refine los F hb23 rfl fun a F => ?_
  refine los F hb23 rfl fun a F => ?_
  refine la F rfl (x_pickF (F.t 23 rfl) hb23 rfl) fun a F => ?_
  refine la F rfl (x_move (F.t 29 rfl)) fun a F => ?_
  refine lo F rfl fun a F => ?_
  refine lo F rfl fun a F => ?_
  refine lo F rfl fun a F => ?_
  refine lo F rfl fun a F => ?_
  refine lo F rfl fun a F => ?_
  refine la F rfl (x_pickF (F.t 30 rfl) rfl rfl) fun a F => ?_
  refine la F rfl (x_move (F.t 36 rfl)) fun a F => ?_
  refine lo F rfl fun a F => ?_
  refine la F rfl (x_pickF (F.t 37 rfl) rfl rfl) fun a F => ?_
  refine la F rfl (x_assign (F.t 39 rfl)) fun a F => ?_
  refine wn (hK3 _ _ ?_)
  refine wp_ret ?_
  try simp only [Exit.then, Exit.inBlock]
  have hv : false = decide (p = q) := by rw [Bool.eq_iff_iff]; simp only [decide_eq_true_iff, tim_same]; first | (simp [hc16, hc23]; done) | (simp [hc16, hc23]; omega)
  exact fin_ret F (res1 (v := .bool false) F rfl rfl) ⟨by rw [hv], H.mods⟩
 have hc16 := hb16; try simp only [bL] at hc16
 refine los F hb16 rfl fun a F => ?_
 refine los F hb16 rfl fun a F => ?_
 refine los F hb16 rfl fun a F => ?_
 refine los F hb16 rfl fun a F => ?_
 refine los F hb16 rfl fun a F => ?_
 refine la F rfl (x_pickF (F.t 16 rfl) hb16 rfl) fun a F => ?_
 refine la F rfl (x_move (F.t 22 rfl)) fun a F => ?_
 refine lo F rfl fun a F => ?_
 refine lo F rfl fun a F => ?_
 refine lo F rfl fun a F => ?_
 refine lo F rfl fun a F => ?_
 refine lo F rfl fun a F => ?_
 refine la F rfl (x_pickF (F.t 23 rfl) rfl rfl) fun a F => ?_
 refine la F rfl (x_move (F.t 29 rfl)) fun a F => ?_
 refine lo F rfl fun a F => ?_
 refine lo F rfl fun a F => ?_
 refine lo F rfl fun a F => ?_
 refine lo F rfl fun a F => ?_
 refine lo F rfl fun a F => ?_
 refine la F rfl (x_pickF (F.t 30 rfl) rfl rfl) fun a F => ?_
 refine la F rfl (x_move (F.t 36 rfl)) fun a F => ?_
 refine lo F rfl fun a F => ?_
 refine la F rfl (x_pickF (F.t 37 rfl) rfl rfl) fun a F => ?_
 refine la F rfl (x_assign (F.t 39 rfl)) fun a F => ?_
 refine wn (hK3 _ _ ?_)
 refine wp_ret ?_
 try simp only [Exit.then, Exit.inBlock]
 have hv : false = decide (p = q) := by rw [Bool.eq_iff_iff]; simp only [decide_eq_true_iff, tim_same]; first | (simp [hc16]; done) | (simp [hc16]; omega)
 exact fin_ret F (res1 (v := .bool false) F rfl rfl) ⟨by rw [hv], H.mods⟩
theorem r12same_calls (w0 : World) {p q : ChangeD} {okp0 : Nat → Prop} {Ap0 : Option Addr} {cp0 : Nat} (hrp0 : Rd StE w0 okp0 Ap0 p.timer.steps cp0) {okq0 : Nat → Prop} {Aq0 : Option Addr} {cq0 : Nat} (hrq0 : Rd StE w0 okq0 Aq0 q.timer.steps cq0) (ha : ChangeB p) (hb : ChangeB q) : Calls Tryz.prog 78 #[.agg #[.int .i64 p.kind, .string (strOfNums p.key), .string (strOfNums p.value), .string (strOfNums p.timer.name), .int .i64 p.timer.ver, .int .u64 p.timer.tick, .int .u64 p.timer.every, .slice Ap0 p.timer.steps.length cp0], .agg #[.int .i64 q.kind, .string (strOfNums q.key), .string (strOfNums q.value), .string (strOfNums q.timer.name), .int .i64 q.timer.ver, .int .u64 q.timer.tick, .int .u64 q.timer.every, .slice Aq0 q.timer.steps.length cq0]] w0 fun e w' => e = .returned (.bool (decide (p = q))) ∧ Mods (fun _ => False) w0 w' := by
 refine cow Tryz.func78 rfl Tryz.ntmps78 (Nat.le_of_ble_eq_true rfl) fun a F => ?_
 have H := Hp.nil (fun _ => False) w0
 have H := H.arg 900 hrp0.all (fun _ h => ⟨h, fun h => h⟩)
 have hlep0 := hrp0.le; unfold maxLen at hlep0
 have H := H.arg 950 hrq0.all (fun _ h => ⟨h, fun h => h⟩)
 have hleq0 := hrq0.le; unfold maxLen at hleq0
 refine sr fun _ hK1 => ?_
 refine lp rfl ?_
 refine w_box 2 F H rfl (F.t 0 rfl) ?_
 clear F H; intro a w b2 F H
 refine lp rfl ?_
 refine w_box 3 F H rfl (F.t 1 rfl) ?_
 clear F H; intro a w b3 F H
 refine la F rfl (x_assign rfl) fun a F => ?_
 refine wn (hK1 _ _ ?_)
 refine sr fun _ hK2 => ?_
 refine la F rfl (x_faddr Tryz.underlying66 rfl ty64 (by decide) (F.t 2 rfl) rfl) fun a F => ?_
 refine la F rfl (x_loadn (cs := #[.string (strOfNums p.timer.name), .int .i64 p.timer.ver, .int .u64 p.timer.tick, .int .u64 p.timer.every, .slice Ap0 p.timer.steps.length cp0]) ty64 (F.t 6 rfl) rfl (blk_sub (H.at 2 rfl) 3 5 rfl)) fun a F => ?_
 refine la F rfl (x_faddr Tryz.underlying66 rfl ty64 (by decide) (F.t 3 rfl) rfl) fun a F => ?_
 refine la F rfl (x_loadn (cs := #[.string (strOfNums q.timer.name), .int .i64 q.timer.ver, .int .u64 q.timer.tick, .int .u64 q.timer.every, .slice Aq0 q.timer.steps.length cq0]) ty64 (F.t 8 rfl) rfl (blk_sub (H.at 3 rfl) 3 5 rfl)) fun a F => ?_
 refine lp rfl ?_
 refine w_call F (x_enter Tryz.func89 (by kernel_rfl) rfl (by simp only [bM, F.t 7 rfl, F.t 9 rfl] <;> rfl)) (r10same_calls _ ((H.rd 900 rfl)) ((H.rd 950 rfl)) ha.timer hb.timer) rfl rfl ?_
 rintro _ w ⟨rfl, hm_⟩; refine ⟨_, rfl, ?_⟩; clear F; intro a F; have H := H.same hm_
 refine la F rfl (x_assign (F.t 10 rfl)) fun a F => ?_
 refine wn (hK2 _ _ ?_)
 refine sr fun _ hK3 => ?_
 refine la F rfl (x_faddr Tryz.underlying66 rfl ty61 (by decide) (F.t 2 rfl) rfl) fun a F => ?_
 refine la F rfl (x_load1 ty61 (F.t 11 rfl) (blk_cell (H.at 2 rfl) 0 rfl)) fun a F => ?_
 refine la F rfl (x_faddr Tryz.underlying66 rfl ty61 (by decide) (F.t 3 rfl) rfl) fun a F => ?_
 refine la F rfl (x_load1 ty61 (F.t 13 rfl) (blk_cell (H.at 3 rfl) 0 rfl)) fun a F => ?_
 refine la F rfl (x_eql (F.t 12 rfl) (F.t 14 rfl)) fun a F => ?_
 refine la F rfl (x_move (F.t 15 rfl)) fun a F => ?_
 refine split_bool F 16 rfl (fun hb16 => ?_) (fun hb16 => ?_)
 ·have hc16 := hb16; try simp only [bL] at hc16
  refine lgs F hb16 rfl (x_faddr Tryz.underlying66 rfl ty9 (by decide) (F.t 2 rfl) rfl) fun a F => ?_
  refine lgs F hb16 rfl (x_load1 ty9 (F.t 17 rfl) (blk_cell (H.at 2 rfl) 1 rfl)) fun a F => ?_
  refine lgs F hb16 rfl (x_faddr Tryz.underlying66 rfl ty9 (by decide) (F.t 3 rfl) rfl) fun a F => ?_
  refine lgs F hb16 rfl (x_load1 ty9 (F.t 19 rfl) (blk_cell (H.at 3 rfl) 1 rfl)) fun a F => ?_
  refine lgs F hb16 rfl (x_eqn (xs := p.key) (ys := q.key) (F.t 18 rfl) (F.t 20 rfl) ha.key hb.key) fun a F => ?_
  refine la F rfl (x_pickT (F.t 16 rfl) hb16 (F.t 21 rfl)) fun a F => ?_
  refine la F rfl (x_move (F.t 22 rfl)) fun a F => ?_
  refine split_bool F 23 rfl (fun hb23 => ?_) (fun hb23 => ?_)
  ·have hc23 := hb23; try simp only [bL] at hc23
   refine lgs F hb23 rfl (x_faddr Tryz.underlying66 rfl ty9 (by decide) (F.t 2 rfl) rfl) fun a F => ?_
   refine lgs F hb23 rfl (x_load1 ty9 (F.t 24 rfl) (blk_cell (H.at 2 rfl) 2 rfl)) fun a F => ?_
   refine lgs F hb23 rfl (x_faddr Tryz.underlying66 rfl ty9 (by decide) (F.t 3 rfl) rfl) fun a F => ?_
   refine lgs F hb23 rfl (x_load1 ty9 (F.t 26 rfl) (blk_cell (H.at 3 rfl) 2 rfl)) fun a F => ?_
   refine lgs F hb23 rfl (x_eqn (xs := p.value) (ys := q.value) (F.t 25 rfl) (F.t 27 rfl) ha.value hb.value) fun a F => ?_
   refine la F rfl (x_pickT (F.t 23 rfl) hb23 (F.t 28 rfl)) fun a F => ?_
   refine la F rfl (x_move (F.t 29 rfl)) fun a F => ?_
   refine split_bool F 30 rfl (fun hb30 => ?_) (fun hb30 => ?_)
   ·have hc30 := hb30; try simp only [bL] at hc30
    refine lgs F hb30 rfl (x_move (F.t 5 rfl)) fun a F => ?_
    refine la F rfl (x_pickT (F.t 30 rfl) hb30 (F.t 31 rfl)) fun a F => ?_
    refine la F rfl (x_assign (F.t 32 rfl)) fun a F => ?_
    refine wn (hK3 _ _ ?_)
    refine wp_ret ?_
    try simp only [Exit.then, Exit.inBlock]
    have hv : (decide (p.timer = q.timer)) = decide (p = q) := by rw [Bool.eq_iff_iff]; simp only [decide_eq_true_iff, chg_same]; first | (simp [hc16, hc23, hc30]; done) | (simp [hc16, hc23, hc30]; omega)
    exact fin_ret F (res1 (v := .bool (decide (p.timer = q.timer))) F rfl rfl) ⟨by rw [hv], H.mods⟩
   have hc30 := hb30; try simp only [bL] at hc30
   refine los F hb30 rfl fun a F => ?_
   refine la F rfl (x_pickF (F.t 30 rfl) hb30 rfl) fun a F => ?_
   refine la F rfl (x_assign (F.t 32 rfl)) fun a F => ?_
   refine wn (hK3 _ _ ?_)
   refine wp_ret ?_
   try simp only [Exit.then, Exit.inBlock]
   have hv : false = decide (p = q) := by rw [Bool.eq_iff_iff]; simp only [decide_eq_true_iff, chg_same]; first | (simp [hc16, hc23, hc30]; done) | (simp [hc16, hc23, hc30]; omega)
   exact fin_ret F (res1 (v := .bool false) F rfl rfl) ⟨by rw [hv], H.mods⟩
  have hc23 := hb23; try simp only [bL] at hc23
  refine los F hb23 rfl fun a F => ?_
  refine los F hb23 rfl fun a F => ?_
  refine los F hb23 rfl fun a F => ?_
  refine los F hb23 rfl fun a F => ?_
  refine los F hb23 rfl fun a F => ?_
  refine la F rfl (x_pickF (F.t 23 rfl) hb23 rfl) fun a F => ?_
  refine la F rfl (x_move (F.t 29 rfl)) fun a F => ?_
  refine lo F rfl fun a F => ?_
  refine la F rfl (x_pickF (F.t 30 rfl) rfl rfl) fun a F => ?_
  refine la F rfl (x_assign (F.t 32 rfl)) fun a F => ?_
  refine wn (hK3 _ _ ?_)
  refine wp_ret ?_
  try simp only [Exit.then, Exit.inBlock]
  have hv : false = decide (p = q) := by rw [Bool.eq_iff_iff]; simp only [decide_eq_true_iff, chg_same]; first | (simp [hc16, hc23]; done) | (simp [hc16, hc23]; omega)
  exact fin_ret F (res1 (v := .bool false) F rfl rfl) ⟨by rw [hv], H.mods⟩
 have hc16 := hb16; try simp only [bL] at hc16
 refine los F hb16 rfl fun a F => ?_
 refine los F hb16 rfl fun a F => ?_
 refine los F hb16 rfl fun a F => ?_
 refine los F hb16 rfl fun a F => ?_
 refine los F hb16 rfl fun a F => ?_
 refine la F rfl (x_pickF (F.t 16 rfl) hb16 rfl) fun a F => ?_
 refine la F rfl (x_move (F.t 22 rfl)) fun a F => ?_
 refine lo F rfl fun a F => ?_
 refine lo F rfl fun a F => ?_
 refine lo F rfl fun a F => ?_
 refine lo F rfl fun a F => ?_
 refine lo F rfl fun a F => ?_
 refine la F rfl (x_pickF (F.t 23 rfl) rfl rfl) fun a F => ?_
 refine la F rfl (x_move (F.t 29 rfl)) fun a F => ?_
 refine lo F rfl fun a F => ?_
 refine la F rfl (x_pickF (F.t 30 rfl) rfl rfl) fun a F => ?_
 refine la F rfl (x_assign (F.t 32 rfl)) fun a F => ?_
 refine wn (hK3 _ _ ?_)
 refine wp_ret ?_
 try simp only [Exit.then, Exit.inBlock]
 have hv : false = decide (p = q) := by rw [Bool.eq_iff_iff]; simp only [decide_eq_true_iff, chg_same]; first | (simp [hc16]; done) | (simp [hc16]; omega)
 exact fin_ret F (res1 (v := .bool false) F rfl rfl) ⟨by rw [hv], H.mods⟩
theorem r12all_calls (w0 : World) {ok1 : Nat → Prop} {A1 : Option Addr} {xs1 : List ChangeD} {c1 : Nat} (hr1 : Rd ChgE w0 ok1 A1 xs1 c1) {ok2 : Nat → Prop} {A2 : Option Addr} {xs2 : List ChangeD} {c2 : Nat} (hr2 : Rd ChgE w0 ok2 A2 xs2 c2) (hb1 : ∀ c ∈ xs1, ChangeB c) (hb2 : ∀ c ∈ xs2, ChangeB c) : Calls Tryz.prog 44 #[.slice A1 xs1.length c1, .slice A2 xs2.length c2] w0 fun e w' => e = .returned (.bool (decide (xs1 = xs2))) ∧ Mods (fun _ => False) w0 w' := by
 refine cow Tryz.func44 rfl Tryz.ntmps44 (Nat.le_of_ble_eq_true rfl) fun a F => ?_
 have H := Hp.nil (fun _ => False) w0
 have H := H.arg 901 hr1.all (fun _ h => ⟨h, fun h => h⟩)
 have hle901 := hr1.le; unfold maxLen at hle901
 have H := H.arg 902 hr2.all (fun _ h => ⟨h, fun h => h⟩)
 have hle902 := hr2.le; unfold maxLen at hle902
 refine sr fun _ hK1 => ?_
 refine la F rfl (x_assign rfl) fun a F => ?_
 refine wn (hK1 _ _ ?_)
 refine wp_seq_k fun _ hK2 => ?_
 refine sr fun _ hK3 => ?_
 refine la F rfl (x_move (F.t 0 rfl)) fun a F => ?_
 refine la F rfl (x_len_slice Tryz.underlying24 (F.t 7 rfl)) fun a F => ?_
 refine la F rfl (x_move (F.t 1 rfl)) fun a F => ?_
 refine la F rfl (x_len_slice Tryz.underlying24 (F.t 9 rfl)) fun a F => ?_
 refine la F rfl (x_neq (F.t 8 rfl) (F.t 10 rfl)) fun a F => ?_
 refine wn (hK3 _ _ ?_)
 refine wp_cond_split (F.t 11 rfl) (fun hc11 => ?_) (fun hc11 => ?_)
 ·have hk11_1 := hc11; try simp only [bL] at hc11
  have hz := same_len (xs := xs1) (ys := xs2) (by omega)
  refine sr fun _ hK4 => ?_
  refine la F rfl (x_assign rfl) fun a F => ?_
  refine wn (hK4 _ _ ?_)
  refine wp_ret ?_
  try simp only [Exit.then, Exit.inBlock]
  exact fin_ret F (res1 F rfl rfl) ⟨by rw [hz] <;> rfl, H.mods⟩
 have hk11_2 := hc11; try simp only [bL] at hc11
 have hll : (xs1.length : Int) = xs2.length := by omega
 refine wp_skip ?_
 refine hK2 _ _ ?_
 refine wp_seq_k fun _ hK5 => ?_
 refine sr fun _ hK6 => ?_
 refine la F rfl (x_assign rfl) fun a F => ?_
 refine wn (hK6 _ _ ?_)
 refine wp_block ?_
 refine wp_loop_ghost (fun n_ a w => ∃ k : Nat, n_ = xs1.length - k ∧ (k ≤ xs1.length) ∧ (xs1.take k = xs2.take k) ∧ Fr 29 a [(0, .slice A1 xs1.length c1), (1, .slice A2 xs2.length c2), (5, .int .i64 (k : Int))] ∧ Hp (fun _ => False) w0 w [(901, .rd_ ChgE A1 xs1 c1 (fun k => k < w0.heap.size)), (902, .rd_ ChgE A2 xs2 c2 (fun k => k < w0.heap.size))]) (xs1.length) ?_ ?_
 ·exact ⟨0, rfl, by omega, rfl, (((F.bare.add F 5 rfl).add F 1 rfl).add F 0 rfl), H.sub _ (sub_cons (sub_cons (sub_nil _) 902 rfl) 901 rfl)⟩
 rintro _ a w ⟨k, rfl, hq0_0, hq0_1, F, H⟩
 refine wp_seq_k fun _ hK7 => ?_
 refine sr fun _ hK8 => ?_
 refine la F rfl (x_move (F.t 5 rfl)) fun a F => ?_
 refine la F rfl (x_move (F.t 0 rfl)) fun a F => ?_
 refine la F rfl (x_len_slice Tryz.underlying24 (F.t 13 rfl)) fun a F => ?_
 refine la F rfl (x_lss (F.t 12 rfl) (F.t 14 rfl)) fun a F => ?_
 refine wn (hK8 _ _ ?_)
 refine wp_cond_split (F.t 15 rfl) (fun hc15 => ?_) (fun hc15 => ?_)
 ·have hk15_3 := hc15; try simp only [bL] at hc15
  obtain ⟨fA1, fc1, hfr1, hf1_0, hf1_1, hf1_2, hf1_3, hf1_4, hf1_5, hf1_6, hf1_7, hfw1⟩ := rd_chg ((H.rd 901 rfl)) (gchg_some (xs := xs1) (i := (k : Int)) (by omega) (by omega))
  have H := H.subrd 901 rfl 1007 hfr1 (fun _ h => h)
  have H := H.subcels 901 rfl 1499 hfw1 (Rd.inok ((H.rd 901 rfl)) (by omega) _)
  have H := H.subcel 901 rfl 1500 hf1_0 (Rd.inok ((H.rd 901 rfl)) (by omega) _)
  have H := H.subcel 901 rfl 1501 hf1_1 (Rd.inok ((H.rd 901 rfl)) (by omega) _)
  have H := H.subcel 901 rfl 1502 hf1_2 (Rd.inok ((H.rd 901 rfl)) (by omega) _)
  have H := H.subcel 901 rfl 1503 hf1_3 (Rd.inok ((H.rd 901 rfl)) (by omega) _)
  have H := H.subcel 901 rfl 1504 hf1_4 (Rd.inok ((H.rd 901 rfl)) (by omega) _)
  have H := H.subcel 901 rfl 1505 hf1_5 (Rd.inok ((H.rd 901 rfl)) (by omega) _)
  have H := H.subcel 901 rfl 1506 hf1_6 (Rd.inok ((H.rd 901 rfl)) (by omega) _)
  have H := H.subcel 901 rfl 1507 hf1_7 (Rd.inok ((H.rd 901 rfl)) (by omega) _)
  obtain ⟨fA2, fc2, hfr2, hf2_0, hf2_1, hf2_2, hf2_3, hf2_4, hf2_5, hf2_6, hf2_7, hfw2⟩ := rd_chg ((H.rd 902 rfl)) (gchg_some (xs := xs2) (i := (k : Int)) (by omega) (by omega))
  have H := H.subrd 902 rfl 2007 hfr2 (fun _ h => h)
  have H := H.subcels 902 rfl 2499 hfw2 (Rd.inok ((H.rd 902 rfl)) (by omega) _)
  have H := H.subcel 902 rfl 2500 hf2_0 (Rd.inok ((H.rd 902 rfl)) (by omega) _)
  have H := H.subcel 902 rfl 2501 hf2_1 (Rd.inok ((H.rd 902 rfl)) (by omega) _)
  have H := H.subcel 902 rfl 2502 hf2_2 (Rd.inok ((H.rd 902 rfl)) (by omega) _)
  have H := H.subcel 902 rfl 2503 hf2_3 (Rd.inok ((H.rd 902 rfl)) (by omega) _)
  have H := H.subcel 902 rfl 2504 hf2_4 (Rd.inok ((H.rd 902 rfl)) (by omega) _)
  have H := H.subcel 902 rfl 2505 hf2_5 (Rd.inok ((H.rd 902 rfl)) (by omega) _)
  have H := H.subcel 902 rfl 2506 hf2_6 (Rd.inok ((H.rd 902 rfl)) (by omega) _)
  have H := H.subcel 902 rfl 2507 hf2_7 (Rd.inok ((H.rd 902 rfl)) (by omega) _)
  have hm1 := gchg_mem (xs := xs1) (j := k) (by omega)
  have hm2 := gchg_mem (xs := xs2) (j := k) (by omega)
  refine wp_skip ?_
  refine hK7 _ _ ?_
  refine wp_seq_k fun _ hK9 => ?_
  refine wp_block ?_
  refine wp_seq_k fun _ hK10 => ?_
  refine r_start [(901, .rd_ ChgE A1 xs1 c1 (fun k => k < w0.heap.size)), (902, .rd_ ChgE A2 xs2 c2 (fun k => k < w0.heap.size)), (1007, .rd_ StE (fA1) (gchg xs1 (k : Int)).timer.steps fc1 (fun k => k < w0.heap.size)), (1499, .cels (adr A1 (Int.toNat (k : Int) * 8)) #[.int .i64 (gchg xs1 (k : Int)).kind, .string (strOfNums (gchg xs1 (k : Int)).key), .string (strOfNums (gchg xs1 (k : Int)).value), .string (strOfNums (gchg xs1 (k : Int)).timer.name), .int .i64 (gchg xs1 (k : Int)).timer.ver, .int .u64 (gchg xs1 (k : Int)).timer.tick, .int .u64 (gchg xs1 (k : Int)).timer.every, .slice fA1 (gchg xs1 (k : Int)).timer.steps.length fc1]), (1500, .cel (adr A1 (Int.toNat (k : Int) * 8)) (.int .i64 (gchg xs1 (k : Int)).kind)), (1501, .cel (adr A1 (Int.toNat (k : Int) * 8 + 1)) (.string (strOfNums (gchg xs1 (k : Int)).key))), (1502, .cel (adr A1 (Int.toNat (k : Int) * 8 + 2)) (.string (strOfNums (gchg xs1 (k : Int)).value))), (1503, .cel (adr A1 (Int.toNat (k : Int) * 8 + 3)) (.string (strOfNums (gchg xs1 (k : Int)).timer.name))), (1504, .cel (adr A1 (Int.toNat (k : Int) * 8 + 4)) (.int .i64 (gchg xs1 (k : Int)).timer.ver)), (1505, .cel (adr A1 (Int.toNat (k : Int) * 8 + 5)) (.int .u64 (gchg xs1 (k : Int)).timer.tick)), (1506, .cel (adr A1 (Int.toNat (k : Int) * 8 + 6)) (.int .u64 (gchg xs1 (k : Int)).timer.every)), (1507, .cel (adr A1 (Int.toNat (k : Int) * 8 + 7)) (.slice fA1 (gchg xs1 (k : Int)).timer.steps.length fc1)), (2007, .rd_ StE (fA2) (gchg xs2 (k : Int)).timer.steps fc2 (fun k => k < w0.heap.size)), (2499, .cels (adr A2 (Int.toNat (k : Int) * 8)) #[.int .i64 (gchg xs2 (k : Int)).kind, .string (strOfNums (gchg xs2 (k : Int)).key), .string (strOfNums (gchg xs2 (k : Int)).value), .string (strOfNums (gchg xs2 (k : Int)).timer.name), .int .i64 (gchg xs2 (k : Int)).timer.ver, .int .u64 (gchg xs2 (k : Int)).timer.tick, .int .u64 (gchg xs2 (k : Int)).timer.every, .slice fA2 (gchg xs2 (k : Int)).timer.steps.length fc2]), (2500, .cel (adr A2 (Int.toNat (k : Int) * 8)) (.int .i64 (gchg xs2 (k : Int)).kind)), (2501, .cel (adr A2 (Int.toNat (k : Int) * 8 + 1)) (.string (strOfNums (gchg xs2 (k : Int)).key))), (2502, .cel (adr A2 (Int.toNat (k : Int) * 8 + 2)) (.string (strOfNums (gchg xs2 (k : Int)).value))), (2503, .cel (adr A2 (Int.toNat (k : Int) * 8 + 3)) (.string (strOfNums (gchg xs2 (k : Int)).timer.name))), (2504, .cel (adr A2 (Int.toNat (k : Int) * 8 + 4)) (.int .i64 (gchg xs2 (k : Int)).timer.ver)), (2505, .cel (adr A2 (Int.toNat (k : Int) * 8 + 5)) (.int .u64 (gchg xs2 (k : Int)).timer.tick)), (2506, .cel (adr A2 (Int.toNat (k : Int) * 8 + 6)) (.int .u64 (gchg xs2 (k : Int)).timer.every)), (2507, .cel (adr A2 (Int.toNat (k : Int) * 8 + 7)) (.slice fA2 (gchg xs2 (k : Int)).timer.steps.length fc2))] (by kernel_rfl) H fun H => ?_
  have hS : SL [(901, .rd_ ChgE A1 xs1 c1 (fun k => k < w0.heap.size)), (902, .rd_ ChgE A2 xs2 c2 (fun k => k < w0.heap.size)), (1007, .rd_ StE (fA1) (gchg xs1 (k : Int)).timer.steps fc1 (fun k => k < w0.heap.size)), (1499, .cels (adr A1 (Int.toNat (k : Int) * 8)) #[.int .i64 (gchg xs1 (k : Int)).kind, .string (strOfNums (gchg xs1 (k : Int)).key), .string (strOfNums (gchg xs1 (k : Int)).value), .string (strOfNums (gchg xs1 (k : Int)).timer.name), .int .i64 (gchg xs1 (k : Int)).timer.ver, .int .u64 (gchg xs1 (k : Int)).timer.tick, .int .u64 (gchg xs1 (k : Int)).timer.every, .slice fA1 (gchg xs1 (k : Int)).timer.steps.length fc1]), (1500, .cel (adr A1 (Int.toNat (k : Int) * 8)) (.int .i64 (gchg xs1 (k : Int)).kind)), (1501, .cel (adr A1 (Int.toNat (k : Int) * 8 + 1)) (.string (strOfNums (gchg xs1 (k : Int)).key))), (1502, .cel (adr A1 (Int.toNat (k : Int) * 8 + 2)) (.string (strOfNums (gchg xs1 (k : Int)).value))), (1503, .cel (adr A1 (Int.toNat (k : Int) * 8 + 3)) (.string (strOfNums (gchg xs1 (k : Int)).timer.name))), (1504, .cel (adr A1 (Int.toNat (k : Int) * 8 + 4)) (.int .i64 (gchg xs1 (k : Int)).timer.ver)), (1505, .cel (adr A1 (Int.toNat (k : Int) * 8 + 5)) (.int .u64 (gchg xs1 (k : Int)).timer.tick)), (1506, .cel (adr A1 (Int.toNat (k : Int) * 8 + 6)) (.int .u64 (gchg xs1 (k : Int)).timer.every)), (1507, .cel (adr A1 (Int.toNat (k : Int) * 8 + 7)) (.slice fA1 (gchg xs1 (k : Int)).timer.steps.length fc1)), (2007, .rd_ StE (fA2) (gchg xs2 (k : Int)).timer.steps fc2 (fun k => k < w0.heap.size)), (2499, .cels (adr A2 (Int.toNat (k : Int) * 8)) #[.int .i64 (gchg xs2 (k : Int)).kind, .string (strOfNums (gchg xs2 (k : Int)).key), .string (strOfNums (gchg xs2 (k : Int)).value), .string (strOfNums (gchg xs2 (k : Int)).timer.name), .int .i64 (gchg xs2 (k : Int)).timer.ver, .int .u64 (gchg xs2 (k : Int)).timer.tick, .int .u64 (gchg xs2 (k : Int)).timer.every, .slice fA2 (gchg xs2 (k : Int)).timer.steps.length fc2]), (2500, .cel (adr A2 (Int.toNat (k : Int) * 8)) (.int .i64 (gchg xs2 (k : Int)).kind)), (2501, .cel (adr A2 (Int.toNat (k : Int) * 8 + 1)) (.string (strOfNums (gchg xs2 (k : Int)).key))), (2502, .cel (adr A2 (Int.toNat (k : Int) * 8 + 2)) (.string (strOfNums (gchg xs2 (k : Int)).value))), (2503, .cel (adr A2 (Int.toNat (k : Int) * 8 + 3)) (.string (strOfNums (gchg xs2 (k : Int)).timer.name))), (2504, .cel (adr A2 (Int.toNat (k : Int) * 8 + 4)) (.int .i64 (gchg xs2 (k : Int)).timer.ver)), (2505, .cel (adr A2 (Int.toNat (k : Int) * 8 + 5)) (.int .u64 (gchg xs2 (k : Int)).timer.tick)), (2506, .cel (adr A2 (Int.toNat (k : Int) * 8 + 6)) (.int .u64 (gchg xs2 (k : Int)).timer.every)), (2507, .cel (adr A2 (Int.toNat (k : Int) * 8 + 7)) (.slice fA2 (gchg xs2 (k : Int)).timer.steps.length fc2))] _ := SL.of H (sub_cons (sub_cons (sub_cons (sub_cons (sub_cons (sub_cons (sub_cons (sub_cons (sub_cons (sub_cons (sub_cons (sub_cons (sub_cons (sub_cons (sub_cons (sub_cons (sub_cons (sub_cons (sub_cons (sub_cons (sub_cons (sub_cons (sub_nil _) 2507 rfl) 2506 rfl) 2505 rfl) 2504 rfl) 2503 rfl) 2502 rfl) 2501 rfl) 2500 rfl) 2499 rfl) 2007 rfl) 1507 rfl) 1506 rfl) 1505 rfl) 1504 rfl) 1503 rfl) 1502 rfl) 1501 rfl) 1500 rfl) 1499 rfl) 1007 rfl) 902 rfl) 901 rfl)
  refine rT 0 F rfl (by kernel_rfl) pq rfl hS (fun w hS => x_move (F.t 0 rfl)) rfl fun a F => ?_
  refine rT 1 F rfl (by kernel_rfl) pq rfl hS (fun w hS => x_move (F.t 5 rfl)) rfl fun a F => ?_
  refine rT 2 F rfl (by kernel_rfl) pq rfl hS (fun w hS => x_iaddr_A Tryz.underlying24 ty66 ((H.rd 901 rfl)) (F.t 18 rfl) (F.t 19 rfl) (by omega) (by omega) _) rfl fun a F => ?_
  refine rT 3 F rfl (by kernel_rfl) pq rfl hS (fun w hS => x_loadn ty66 (F.t 20 rfl) rfl (hS 1499 _ rfl)) rfl fun a F => ?_
  refine rT 4 F rfl (by kernel_rfl) pq rfl hS (fun w hS => x_move (F.t 1 rfl)) rfl fun a F => ?_
  refine rT 5 F rfl (by kernel_rfl) pq rfl hS (fun w hS => x_move (F.t 5 rfl)) rfl fun a F => ?_
  refine rT 6 F rfl (by kernel_rfl) pq rfl hS (fun w hS => x_iaddr_A Tryz.underlying24 ty66 ((H.rd 902 rfl)) (F.t 22 rfl) (F.t 23 rfl) (by omega) (by omega) _) rfl fun a F => ?_
  refine rT 7 F rfl (by kernel_rfl) pq rfl hS (fun w hS => x_loadn ty66 (F.t 24 rfl) rfl (hS 2499 _ rfl)) rfl fun a F => ?_
  refine r_do 8 rfl (by kernel_rfl) rfl rfl ?_
  refine w_call F (x_enter Tryz.func78 (by kernel_rfl) rfl (by simp only [bM, F.t 21 rfl, F.t 25 rfl] <;> rfl)) (r12same_calls _ ((H.rd 1007 rfl)) ((H.rd 2007 rfl)) (hb1 _ hm1) (hb2 _ hm2)) rfl rfl ?_
  rintro _ w ⟨rfl, hm_⟩; refine ⟨_, rfl, ?_⟩; clear F; intro a F; have H := H.same hm_
  refine aN (SL.of H (sub_cons (sub_cons (sub_cons (sub_cons (sub_cons (sub_cons (sub_cons (sub_cons (sub_cons (sub_cons (sub_cons (sub_cons (sub_cons (sub_cons (sub_cons (sub_cons (sub_cons (sub_cons (sub_cons (sub_cons (sub_cons (sub_cons (sub_nil _) 2507 rfl) 2506 rfl) 2505 rfl) 2504 rfl) 2503 rfl) 2502 rfl) 2501 rfl) 2500 rfl) 2499 rfl) 2007 rfl) 1507 rfl) 1506 rfl) 1505 rfl) 1504 rfl) 1503 rfl) 1502 rfl) 1501 rfl) 1500 rfl) 1499 rfl) 1007 rfl) 902 rfl) 901 rfl)) fun hS => ?_
  refine rT 9 F rfl (by kernel_rfl) pq rfl hS (fun w hS => x_assign (F.t 26 rfl)) rfl fun a F => ?_
  refine r_end (by kernel_rfl) ?_; clear hS
  refine hK10 _ _ ?_
  refine sr fun _ hK11 => ?_
  refine la F rfl (x_move (F.t 6 rfl)) fun a F => ?_
  refine la F rfl (x_not (F.t 27 rfl)) fun a F => ?_
  refine wn (hK11 _ _ ?_)
  refine wp_cond_split (F.t 28 rfl) (fun hc28 => ?_) (fun hc28 => ?_)
  ·have hk28_4 := hc28; try simp only [bL] at hc28
   have hz := same_at (xs := xs1) (ys := xs2) (fun l => gchg l (k : Int)) hc28
   refine sr fun _ hK12 => ?_
   refine la F rfl (x_assign rfl) fun a F => ?_
   refine wn (hK12 _ _ ?_)
   refine wp_ret ?_
   try simp only [Exit.then, Exit.inBlock]
   exact fin_ret F (res1 F rfl rfl) ⟨by rw [hz] <;> rfl, H.mods⟩
  have hk28_5 := hc28; try simp only [bL] at hc28
  refine wp_skip ?_
  refine hK9 _ _ ?_
  refine wp_region_lit ?_
  refine la F rfl (x_move (F.t 5 rfl)) fun a F => ?_
  refine la F rfl (x_add (F.t 16 rfl) rfl (w64 (by omega) (by omega))) fun a F => ?_
  refine la F rfl (x_assign (F.t 17 rfl)) fun a F => ?_
  refine wpList_nil ?_
  exact ⟨_, by omega, ⟨k + 1, rfl, by omega, same_step (gchg_some (xs := xs1) (i := (k : Int)) (by omega) (by omega)) (gchg_some (xs := xs2) (i := (k : Int)) (by omega) (by omega)) hq0_1 hc28, (((F.bare.add F 5 rfl).add F 1 rfl).add F 0 rfl), H.sub _ (sub_cons (sub_cons (sub_nil _) 902 rfl) 901 rfl)⟩⟩
 have hk15_6 := hc15; try simp only [bL] at hc15
 have hz := same_yes (xs := xs1) (ys := xs2) (k := k) (by omega) hll hq0_1
 refine wp_exit ?_
 refine hK5 _ _ ?_
 refine sr fun _ hK13 => ?_
 refine la F rfl (x_assign rfl) fun a F => ?_
 refine wn (hK13 _ _ ?_)
 refine wp_ret ?_
 try simp only [Exit.then, Exit.inBlock]
 exact fin_ret F (res1 F rfl rfl) ⟨by rw [hz] <;> rfl, H.mods⟩
theorem r16same_calls (w0 : World) {p q : MessageD} {okp0 : Nat → Prop} {Ap0 : Option Addr} {cp0 : Nat} (hrp0 : Rd (Rep.int .i64) w0 okp0 Ap0 p.nodes cp0) {okp1 : Nat → Prop} {Ap1 : Option Addr} {cp1 : Nat} (hrp1 : Rd ChgE w0 okp1 Ap1 p.changes cp1) {okq0 : Nat → Prop} {Aq0 : Option Addr} {cq0 : Nat} (hrq0 : Rd (Rep.int .i64) w0 okq0 Aq0 q.nodes cq0) {okq1 : Nat → Prop} {Aq1 : Option Addr} {cq1 : Nat} (hrq1 : Rd ChgE w0 okq1 Aq1 q.changes cq1) (ha : MessageB p) (hb : MessageB q) : Calls Tryz.prog 11 #[.agg #[.int .i64 p.kind, .int .i64 p.src, .int .i64 p.dst, .int .i64 p.tx, .slice Ap0 p.nodes.length cp0, .slice Ap1 p.changes.length cp1], .agg #[.int .i64 q.kind, .int .i64 q.src, .int .i64 q.dst, .int .i64 q.tx, .slice Aq0 q.nodes.length cq0, .slice Aq1 q.changes.length cq1]] w0 fun e w' => e = .returned (.bool (decide (p = q))) ∧ Mods (fun _ => False) w0 w' := by
 refine cow Tryz.func11 rfl Tryz.ntmps11 (Nat.le_of_ble_eq_true rfl) fun a F => ?_
 have H := Hp.nil (fun _ => False) w0
 have H := H.arg 900 hrp0.all (fun _ h => ⟨h, fun h => h⟩)
 have hlep0 := hrp0.le; unfold maxLen at hlep0
 have H := H.arg 901 hrp1.all (fun _ h => ⟨h, fun h => h⟩)
 have hlep1 := hrp1.le; unfold maxLen at hlep1
 have H := H.arg 950 hrq0.all (fun _ h => ⟨h, fun h => h⟩)
 have hleq0 := hrq0.le; unfold maxLen at hleq0
 have H := H.arg 951 hrq1.all (fun _ h => ⟨h, fun h => h⟩)
 have hleq1 := hrq1.le; unfold maxLen at hleq1
 refine sr fun _ hK1 => ?_
 refine lp rfl ?_
 refine w_box 2 F H rfl (F.t 0 rfl) ?_
 clear F H; intro a w b2 F H
 refine lp rfl ?_
 refine w_box 3 F H rfl (F.t 1 rfl) ?_
 clear F H; intro a w b3 F H
 refine la F rfl (x_assign rfl) fun a F => ?_
 refine wn (hK1 _ _ ?_)
 refine wp_seq_k fun _ hK2 => ?_
 refine sr fun _ hK3 => ?_
 refine la F rfl (x_faddr Tryz.underlying26 rfl ty22 (by decide) (F.t 2 rfl) rfl) fun a F => ?_
 refine la F rfl (x_load1 ty22 (F.t 6 rfl) (blk_cell (H.at 2 rfl) 0 rfl)) fun a F => ?_
 refine la F rfl (x_faddr Tryz.underlying26 rfl ty22 (by decide) (F.t 3 rfl) rfl) fun a F => ?_
 refine la F rfl (x_load1 ty22 (F.t 8 rfl) (blk_cell (H.at 3 rfl) 0 rfl)) fun a F => ?_
 refine la F rfl (x_neq (F.t 7 rfl) (F.t 9 rfl)) fun a F => ?_
 refine la F rfl (x_move (F.t 10 rfl)) fun a F => ?_
 refine split_bool F 11 rfl (fun hb11 => ?_) (fun hb11 => ?_)
 ·have hc11 := hb11; try simp only [bL] at hc11
  refine los F hb11 rfl fun a F => ?_
  refine los F hb11 rfl fun a F => ?_
  refine los F hb11 rfl fun a F => ?_
  refine los F hb11 rfl fun a F => ?_
  refine los F hb11 rfl fun a F => ?_
  refine la F rfl (x_pickT (F.t 11 rfl) hb11 rfl) fun a F => ?_
  refine la F rfl (x_move (F.t 17 rfl)) fun a F => ?_
  refine lo F rfl fun a F => ?_
  refine lo F rfl fun a F => ?_
  refine lo F rfl fun a F => ?_
  refine lo F rfl fun a F => ?_
  refine lo F rfl fun a F => ?_
  refine la F rfl (x_pickT (F.t 18 rfl) rfl rfl) fun a F => ?_
  refine la F rfl (x_move (F.t 24 rfl)) fun a F => ?_
  refine lo F rfl fun a F => ?_
  refine lo F rfl fun a F => ?_
  refine lo F rfl fun a F => ?_
  refine lo F rfl fun a F => ?_
  refine lo F rfl fun a F => ?_
  refine la F rfl (x_pickT (F.t 25 rfl) rfl rfl) fun a F => ?_
  refine la F rfl (x_move (F.t 31 rfl)) fun a F => ?_
  refine lo F rfl fun a F => ?_
  refine lo F rfl fun a F => ?_
  refine lo F rfl fun a F => ?_
  refine lo F rfl fun a F => ?_
  refine lo F rfl fun a F => ?_
  refine lo F rfl fun a F => ?_
  refine lo F rfl fun a F => ?_
  refine la F rfl (x_pickT (F.t 32 rfl) rfl rfl) fun a F => ?_
  refine wn (hK3 _ _ ?_)
  refine wp_cond_true (F.t 40 rfl) ?_
  refine sr fun _ hK4 => ?_
  refine la F rfl (x_assign rfl) fun a F => ?_
  refine wn (hK4 _ _ ?_)
  refine wp_ret ?_
  try simp only [Exit.then, Exit.inBlock]
  exact fin_ret F (res1 F rfl rfl) ⟨by rw [msg_not (x := p) (y := q) (by simp [hc11])] <;> rfl, H.mods⟩
 have hc11 := hb11; try simp only [bL] at hc11
 refine lgs F hb11 rfl (x_faddr Tryz.underlying26 rfl ty3 (by decide) (F.t 2 rfl) rfl) fun a F => ?_
 refine lgs F hb11 rfl (x_load1 ty3 (F.t 12 rfl) (blk_cell (H.at 2 rfl) 1 rfl)) fun a F => ?_
 refine lgs F hb11 rfl (x_faddr Tryz.underlying26 rfl ty3 (by decide) (F.t 3 rfl) rfl) fun a F => ?_
 refine lgs F hb11 rfl (x_load1 ty3 (F.t 14 rfl) (blk_cell (H.at 3 rfl) 1 rfl)) fun a F => ?_
 refine lgs F hb11 rfl (x_neq (F.t 13 rfl) (F.t 15 rfl)) fun a F => ?_
 refine la F rfl (x_pickF (F.t 11 rfl) hb11 (F.t 16 rfl)) fun a F => ?_
 refine la F rfl (x_move (F.t 17 rfl)) fun a F => ?_
 refine split_bool F 18 rfl (fun hb18 => ?_) (fun hb18 => ?_)
 ·have hc18 := hb18; try simp only [bL] at hc18
  refine los F hb18 rfl fun a F => ?_
  refine los F hb18 rfl fun a F => ?_
  refine los F hb18 rfl fun a F => ?_
  refine los F hb18 rfl fun a F => ?_
  refine los F hb18 rfl fun a F => ?_
  refine la F rfl (x_pickT (F.t 18 rfl) hb18 rfl) fun a F => ?_
  refine la F rfl (x_move (F.t 24 rfl)) fun a F => ?_
  refine lo F rfl fun a F => ?_
  refine lo F rfl fun a F => ?_
  refine lo F rfl fun a F => ?_
  refine lo F rfl fun a F => ?_
  refine lo F rfl fun a F => ?_
  refine la F rfl (x_pickT (F.t 25 rfl) rfl rfl) fun a F => ?_
  refine la F rfl (x_move (F.t 31 rfl)) fun a F => ?_
  refine lo F rfl fun a F => ?_
  refine lo F rfl fun a F => ?_
  refine lo F rfl fun a F => ?_
  refine lo F rfl fun a F => ?_
  refine lo F rfl fun a F => ?_
  refine lo F rfl fun a F => ?_
  refine lo F rfl fun a F => ?_
  refine la F rfl (x_pickT (F.t 32 rfl) rfl rfl) fun a F => ?_
  refine wn (hK3 _ _ ?_)
  refine wp_cond_true (F.t 40 rfl) ?_
  refine sr fun _ hK5 => ?_
  refine la F rfl (x_assign rfl) fun a F => ?_
  refine wn (hK5 _ _ ?_)
  refine wp_ret ?_
  try simp only [Exit.then, Exit.inBlock]
  exact fin_ret F (res1 F rfl rfl) ⟨by rw [msg_not (x := p) (y := q) (by simp [hc11, hc18])] <;> rfl, H.mods⟩
 have hc18 := hb18; try simp only [bL] at hc18
 refine lgs F hb18 rfl (x_faddr Tryz.underlying26 rfl ty3 (by decide) (F.t 2 rfl) rfl) fun a F => ?_
 refine lgs F hb18 rfl (x_load1 ty3 (F.t 19 rfl) (blk_cell (H.at 2 rfl) 2 rfl)) fun a F => ?_
 refine lgs F hb18 rfl (x_faddr Tryz.underlying26 rfl ty3 (by decide) (F.t 3 rfl) rfl) fun a F => ?_
 refine lgs F hb18 rfl (x_load1 ty3 (F.t 21 rfl) (blk_cell (H.at 3 rfl) 2 rfl)) fun a F => ?_
 refine lgs F hb18 rfl (x_neq (F.t 20 rfl) (F.t 22 rfl)) fun a F => ?_
 refine la F rfl (x_pickF (F.t 18 rfl) hb18 (F.t 23 rfl)) fun a F => ?_
 refine la F rfl (x_move (F.t 24 rfl)) fun a F => ?_
 refine split_bool F 25 rfl (fun hb25 => ?_) (fun hb25 => ?_)
 ·have hc25 := hb25; try simp only [bL] at hc25
  refine los F hb25 rfl fun a F => ?_
  refine los F hb25 rfl fun a F => ?_
  refine los F hb25 rfl fun a F => ?_
  refine los F hb25 rfl fun a F => ?_
  refine los F hb25 rfl fun a F => ?_
  refine la F rfl (x_pickT (F.t 25 rfl) hb25 rfl) fun a F => ?_
  refine la F rfl (x_move (F.t 31 rfl)) fun a F => ?_
  refine lo F rfl fun a F => ?_
  refine lo F rfl fun a F => ?_
  refine lo F rfl fun a F => ?_
  refine lo F rfl fun a F => ?_
  refine lo F rfl fun a F => ?_
  refine lo F rfl fun a F => ?_
  refine lo F rfl fun a F => ?_
  refine la F rfl (x_pickT (F.t 32 rfl) rfl rfl) fun a F => ?_
  refine wn (hK3 _ _ ?_)
  refine wp_cond_true (F.t 40 rfl) ?_
  refine sr fun _ hK6 => ?_
  refine la F rfl (x_assign rfl) fun a F => ?_
  refine wn (hK6 _ _ ?_)
  refine wp_ret ?_
  try simp only [Exit.then, Exit.inBlock]
  exact fin_ret F (res1 F rfl rfl) ⟨by rw [msg_not (x := p) (y := q) (by simp [hc11, hc18, hc25])] <;> rfl, H.mods⟩
 have hc25 := hb25; try simp only [bL] at hc25
 refine lgs F hb25 rfl (x_faddr Tryz.underlying26 rfl ty3 (by decide) (F.t 2 rfl) rfl) fun a F => ?_
 refine lgs F hb25 rfl (x_load1 ty3 (F.t 26 rfl) (blk_cell (H.at 2 rfl) 3 rfl)) fun a F => ?_
 refine lgs F hb25 rfl (x_faddr Tryz.underlying26 rfl ty3 (by decide) (F.t 3 rfl) rfl) fun a F => ?_
 refine lgs F hb25 rfl (x_load1 ty3 (F.t 28 rfl) (blk_cell (H.at 3 rfl) 3 rfl)) fun a F => ?_
 refine lgs F hb25 rfl (x_neq (F.t 27 rfl) (F.t 29 rfl)) fun a F => ?_
 refine la F rfl (x_pickF (F.t 25 rfl) hb25 (F.t 30 rfl)) fun a F => ?_
 refine la F rfl (x_move (F.t 31 rfl)) fun a F => ?_
 refine split_bool F 32 rfl (fun hb32 => ?_) (fun hb32 => ?_)
 ·have hc32 := hb32; try simp only [bL] at hc32
  refine los F hb32 rfl fun a F => ?_
  refine los F hb32 rfl fun a F => ?_
  refine los F hb32 rfl fun a F => ?_
  refine los F hb32 rfl fun a F => ?_
  refine los F hb32 rfl fun a F => ?_
  refine los F hb32 rfl fun a F => ?_
  refine los F hb32 rfl fun a F => ?_
  refine la F rfl (x_pickT (F.t 32 rfl) hb32 rfl) fun a F => ?_
  refine wn (hK3 _ _ ?_)
  refine wp_cond_true (F.t 40 rfl) ?_
  refine sr fun _ hK7 => ?_
  refine la F rfl (x_assign rfl) fun a F => ?_
  refine wn (hK7 _ _ ?_)
  refine wp_ret ?_
  try simp only [Exit.then, Exit.inBlock]
  exact fin_ret F (res1 F rfl rfl) ⟨by rw [msg_not (x := p) (y := q) (by simp [hc11, hc18, hc25, hc32])] <;> rfl, H.mods⟩
 have hc32 := hb32; try simp only [bL] at hc32
 refine lgs F hb32 rfl (x_faddr Tryz.underlying26 rfl ty23 (by decide) (F.t 2 rfl) rfl) fun a F => ?_
 refine lgs F hb32 rfl (x_load1 ty23 (F.t 33 rfl) (blk_cell (H.at 2 rfl) 4 rfl)) fun a F => ?_
 refine lgs F hb32 rfl (x_len_slice Tryz.underlying23 (F.t 34 rfl)) fun a F => ?_
 refine lgs F hb32 rfl (x_faddr Tryz.underlying26 rfl ty23 (by decide) (F.t 3 rfl) rfl) fun a F => ?_
 refine lgs F hb32 rfl (x_load1 ty23 (F.t 36 rfl) (blk_cell (H.at 3 rfl) 4 rfl)) fun a F => ?_
 refine lgs F hb32 rfl (x_len_slice Tryz.underlying23 (F.t 37 rfl)) fun a F => ?_
 refine lgs F hb32 rfl (x_neq (F.t 35 rfl) (F.t 38 rfl)) fun a F => ?_
 refine la F rfl (x_pickF (F.t 32 rfl) hb32 (F.t 39 rfl)) fun a F => ?_
 refine wn (hK3 _ _ ?_)
 refine wp_cond_split (F.t 40 rfl) (fun hc40 => ?_) (fun hc40 => ?_)
 ·have hk40_1 := hc40; try simp only [bL] at hc40
  refine sr fun _ hK8 => ?_
  refine la F rfl (x_assign rfl) fun a F => ?_
  refine wn (hK8 _ _ ?_)
  refine wp_ret ?_
  try simp only [Exit.then, Exit.inBlock]
  exact fin_ret F (res1 F rfl rfl) ⟨by rw [msg_not (x := p) (y := q) (by simp [hc11, hc18, hc25, hc32, hc40])] <;> rfl, H.mods⟩
 have hk40_2 := hc40; try simp only [bL] at hc40
 refine wp_skip ?_
 refine hK2 _ _ ?_
 refine wp_seq_k fun _ hK9 => ?_
 refine sr fun _ hK10 => ?_
 refine la F rfl (x_assign rfl) fun a F => ?_
 refine wn (hK10 _ _ ?_)
 refine wp_block ?_
 refine wp_loop_ghost (fun n_ a w => ∃ k : Nat, n_ = p.nodes.length - k ∧ (k ≤ p.nodes.length) ∧ (p.nodes.take k = q.nodes.take k) ∧ Fr 64 a [(2, .pointer (some ⟨b2, 0, none⟩)), (3, .pointer (some ⟨b3, 0, none⟩)), (5, .int .i64 (k : Int))] ∧ Hp (fun _ => False) w0 w [(900, .rd_ (.int .i64) Ap0 p.nodes cp0 (fun k => k < w0.heap.size)), (901, .rd_ ChgE Ap1 p.changes cp1 (fun k => k < w0.heap.size)), (950, .rd_ (.int .i64) Aq0 q.nodes cq0 (fun k => k < w0.heap.size)), (951, .rd_ ChgE Aq1 q.changes cq1 (fun k => k < w0.heap.size)), (2, .blk b2 (.cells #[.int .i64 p.kind, .int .i64 p.src, .int .i64 p.dst, .int .i64 p.tx, .slice Ap0 p.nodes.length cp0, .slice Ap1 p.changes.length cp1] 26 (0, 0))), (3, .blk b3 (.cells #[.int .i64 q.kind, .int .i64 q.src, .int .i64 q.dst, .int .i64 q.tx, .slice Aq0 q.nodes.length cq0, .slice Aq1 q.changes.length cq1] 26 (0, 0)))]) (p.nodes.length) ?_ ?_
 ·exact ⟨0, rfl, by omega, rfl, (((F.bare.add F 5 rfl).add F 3 rfl).add F 2 rfl), H.sub _ (sub_cons (sub_cons (sub_cons (sub_cons (sub_cons (sub_cons (sub_nil _) 3 rfl) 2 rfl) 951 rfl) 950 rfl) 901 rfl) 900 rfl)⟩
 rintro _ a w ⟨k, rfl, hq0_0, hq0_1, F, H⟩
 refine wp_seq_k fun _ hK11 => ?_
 refine sr fun _ hK12 => ?_
 refine la F rfl (x_move (F.t 5 rfl)) fun a F => ?_
 refine la F rfl (x_faddr Tryz.underlying26 rfl ty23 (by decide) (F.t 2 rfl) rfl) fun a F => ?_
 refine la F rfl (x_load1 ty23 (F.t 42 rfl) (blk_cell (H.at 2 rfl) 4 rfl)) fun a F => ?_
 refine la F rfl (x_len_slice Tryz.underlying23 (F.t 43 rfl)) fun a F => ?_
 refine la F rfl (x_lss (F.t 41 rfl) (F.t 44 rfl)) fun a F => ?_
 refine wn (hK12 _ _ ?_)
 refine wp_cond_split (F.t 45 rfl) (fun hc45 => ?_) (fun hc45 => ?_)
 ·have hk45_3 := hc45; try simp only [bL] at hc45
  refine wp_skip ?_
  refine hK11 _ _ ?_
  refine wp_seq_k fun _ hK13 => ?_
  refine wp_block ?_
  refine wp_seq_k fun _ hK14 => ?_
  refine r_start [(900, .rd_ (.int .i64) Ap0 p.nodes cp0 (fun k => k < w0.heap.size)), (901, .rd_ ChgE Ap1 p.changes cp1 (fun k => k < w0.heap.size)), (950, .rd_ (.int .i64) Aq0 q.nodes cq0 (fun k => k < w0.heap.size)), (951, .rd_ ChgE Aq1 q.changes cq1 (fun k => k < w0.heap.size)), (2, .blk b2 (.cells #[.int .i64 p.kind, .int .i64 p.src, .int .i64 p.dst, .int .i64 p.tx, .slice Ap0 p.nodes.length cp0, .slice Ap1 p.changes.length cp1] 26 (0, 0))), (3, .blk b3 (.cells #[.int .i64 q.kind, .int .i64 q.src, .int .i64 q.dst, .int .i64 q.tx, .slice Aq0 q.nodes.length cq0, .slice Aq1 q.changes.length cq1] 26 (0, 0)))] (by kernel_rfl) H fun H => ?_
  have hS : SL [(900, .rd_ (.int .i64) Ap0 p.nodes cp0 (fun k => k < w0.heap.size)), (901, .rd_ ChgE Ap1 p.changes cp1 (fun k => k < w0.heap.size)), (950, .rd_ (.int .i64) Aq0 q.nodes cq0 (fun k => k < w0.heap.size)), (951, .rd_ ChgE Aq1 q.changes cq1 (fun k => k < w0.heap.size)), (2, .blk b2 (.cells #[.int .i64 p.kind, .int .i64 p.src, .int .i64 p.dst, .int .i64 p.tx, .slice Ap0 p.nodes.length cp0, .slice Ap1 p.changes.length cp1] 26 (0, 0))), (3, .blk b3 (.cells #[.int .i64 q.kind, .int .i64 q.src, .int .i64 q.dst, .int .i64 q.tx, .slice Aq0 q.nodes.length cq0, .slice Aq1 q.changes.length cq1] 26 (0, 0)))] _ := SL.of H (sub_cons (sub_cons (sub_cons (sub_cons (sub_cons (sub_cons (sub_nil _) 3 rfl) 2 rfl) 951 rfl) 950 rfl) 901 rfl) 900 rfl)
  refine rT 0 F rfl (by kernel_rfl) pq rfl hS (fun w hS => x_faddr Tryz.underlying26 rfl ty23 (by decide) (F.t 2 rfl) rfl) rfl fun a F => ?_
  refine rT 1 F rfl (by kernel_rfl) pq rfl hS (fun w hS => x_load1 ty23 (F.t 48 rfl) (blk_cell (SL.at_ hS 2 rfl) 4 rfl)) rfl fun a F => ?_
  refine rT 2 F rfl (by kernel_rfl) pq rfl hS (fun w hS => x_move (F.t 5 rfl)) rfl fun a F => ?_
  refine rT 3 F rfl (by kernel_rfl) pq rfl hS (fun w hS => x_iaddr_A Tryz.underlying23 ty3 ((H.rd 900 rfl)) (F.t 49 rfl) (F.t 50 rfl) (by omega) (by omega) _) rfl fun a F => ?_
  refine rT 4 F rfl (by kernel_rfl) pq rfl hS (fun w hS => x_load1 ty3 (F.t 51 rfl) (((SL.rd hS 900 rfl)).cellA (gi_some (i := (k : Int)) (by omega) (by omega)))) rfl fun a F => ?_
  refine rT 5 F rfl (by kernel_rfl) pq rfl hS (fun w hS => x_faddr Tryz.underlying26 rfl ty23 (by decide) (F.t 3 rfl) rfl) rfl fun a F => ?_
  refine rT 6 F rfl (by kernel_rfl) pq rfl hS (fun w hS => x_load1 ty23 (F.t 53 rfl) (blk_cell (SL.at_ hS 3 rfl) 4 rfl)) rfl fun a F => ?_
  refine rT 7 F rfl (by kernel_rfl) pq rfl hS (fun w hS => x_move (F.t 5 rfl)) rfl fun a F => ?_
  refine rT 8 F rfl (by kernel_rfl) pq rfl hS (fun w hS => x_iaddr_A Tryz.underlying23 ty3 ((H.rd 950 rfl)) (F.t 54 rfl) (F.t 55 rfl) (by omega) (by omega) _) rfl fun a F => ?_
  refine rT 9 F rfl (by kernel_rfl) pq rfl hS (fun w hS => x_load1 ty3 (F.t 56 rfl) (((SL.rd hS 950 rfl)).cellA (gi_some (i := (k : Int)) (by omega) (by omega)))) rfl fun a F => ?_
  refine rT 10 F rfl (by kernel_rfl) pq rfl hS (fun w hS => x_neq (F.t 52 rfl) (F.t 57 rfl)) rfl fun a F => ?_
  refine r_end (by kernel_rfl) ?_; clear hS
  refine hK14 _ _ ?_
  refine wp_cond_split (F.t 58 rfl) (fun hc58 => ?_) (fun hc58 => ?_)
  ·have hk58_4 := hc58; try simp only [bL] at hc58
   have hz := msg_nodes (same_at (xs := p.nodes) (ys := q.nodes) (fun l => gi l (k : Int)) hc58)
   refine sr fun _ hK15 => ?_
   refine la F rfl (x_assign rfl) fun a F => ?_
   refine wn (hK15 _ _ ?_)
   refine wp_ret ?_
   try simp only [Exit.then, Exit.inBlock]
   exact fin_ret F (res1 F rfl rfl) ⟨by rw [hz] <;> rfl, H.mods⟩
  have hk58_5 := hc58; try simp only [bL] at hc58
  refine wp_skip ?_
  refine hK13 _ _ ?_
  refine wp_region_lit ?_
  refine la F rfl (x_move (F.t 5 rfl)) fun a F => ?_
  refine la F rfl (x_add (F.t 46 rfl) rfl (w64 (by omega) (by omega))) fun a F => ?_
  refine la F rfl (x_assign (F.t 47 rfl)) fun a F => ?_
  refine wpList_nil ?_
  exact ⟨_, by omega, ⟨k + 1, rfl, by omega, same_step (gi_some (xs := p.nodes) (i := (k : Int)) (by omega) (by omega)) (gi_some (xs := q.nodes) (i := (k : Int)) (by omega) (by omega)) hq0_1 hc58, (((F.bare.add F 5 rfl).add F 3 rfl).add F 2 rfl), H.sub _ (sub_cons (sub_cons (sub_cons (sub_cons (sub_cons (sub_cons (sub_nil _) 3 rfl) 2 rfl) 951 rfl) 950 rfl) 901 rfl) 900 rfl)⟩⟩
 have hk45_6 := hc45; try simp only [bL] at hc45
 have hnn := of_decide_eq_true (same_yes (xs := p.nodes) (ys := q.nodes) (k := k) (by omega) (by omega) hq0_1)
 refine wp_exit ?_
 refine hK9 _ _ ?_
 refine sr fun _ hK16 => ?_
 refine la F rfl (x_faddr Tryz.underlying26 rfl ty24 (by decide) (F.t 2 rfl) rfl) fun a F => ?_
 refine la F rfl (x_load1 ty24 (F.t 59 rfl) (blk_cell (H.at 2 rfl) 5 rfl)) fun a F => ?_
 refine la F rfl (x_faddr Tryz.underlying26 rfl ty24 (by decide) (F.t 3 rfl) rfl) fun a F => ?_
 refine la F rfl (x_load1 ty24 (F.t 61 rfl) (blk_cell (H.at 3 rfl) 5 rfl)) fun a F => ?_
 refine lp rfl ?_
 refine w_call F (x_enter Tryz.func44 (by kernel_rfl) rfl (by simp only [bM, F.t 60 rfl, F.t 62 rfl] <;> rfl)) (r12all_calls _ ((H.rd 901 rfl)) ((H.rd 951 rfl)) ha.changes hb.changes) rfl rfl ?_
 rintro _ w ⟨rfl, hm_⟩; refine ⟨_, rfl, ?_⟩; clear F; intro a F; have H := H.same hm_
 refine la F rfl (x_assign (F.t 63 rfl)) fun a F => ?_
 refine wn (hK16 _ _ ?_)
 refine wp_ret ?_
 try simp only [Exit.then, Exit.inBlock]
 have hv : (decide (p.changes = q.changes)) = decide (p = q) := by rw [Bool.eq_iff_iff]; simp only [decide_eq_true_iff, msg_same]; first | (simp [hc11, hc18, hc25, hc32, hc40, hc45, hnn]; done) | (simp [hc11, hc18, hc25, hc32, hc40, hc45, hnn]; omega)
 exact fin_ret F (res1 (v := .bool (decide (p.changes = q.changes))) F rfl rfl) ⟨by rw [hv], H.mods⟩
end Go.Proofs.YtiiklnghnifmjaaGreatDoor.Act
