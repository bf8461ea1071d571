/- Requests as the document has them, walked. -/
import Derived.Test.YtiiklnghnifmjaaGreatDoorSesAZc
import Derived.Test.YtiiklnghnifmjaaGreatDoorRefDZc
import Derived.Test.YtiiklnghnifmjaaGreatDoorMsgDZc
set_option linter.unusedVariables false
namespace Go.Proofs.YtiiklnghnifmjaaGreatDoor.Act
open Go.RowKit Go.Proofs.YtiiklnghnifmjaaGreatDoor.Sx Go.Proofs.YtiiklnghnifmjaaGreatDoor.Cod Go.Proofs.YtiiklnghnifmjaaGreatDoor.Num
theorem same_len {α : Type} [DecidableEq α] {xs ys : List α} (h : ¬ (xs.length : Int) = ys.length) : decide (xs = ys) = false :=
  decide_eq_false (fun e => h (by rw [e]))
theorem same_at {α β : Type} [DecidableEq α] {xs ys : List α} (f : List α → β) (h : ¬ f xs = f ys) : decide (xs = ys) = false :=
  decide_eq_false (fun e => h (by rw [e]))
theorem same_step {α : Type} {xs ys : List α} {k : Nat} {x y : α} (hx : xs[k]? = some x) (hy : ys[k]? = some y) (h : xs.take k = ys.take k) (e : x = y) : xs.take (k + 1) = ys.take (k + 1) := by
  rw [List.take_add_one, List.take_add_one, h, hx, hy, e]
theorem same_yes {α : Type} [DecidableEq α] {xs ys : List α} {k : Nat} (h1 : k = xs.length) (hl : (xs.length : Int) = ys.length) (h : xs.take k = ys.take k) : decide (xs = ys) = true := by
  subst h1
  rw [List.take_length, show xs.length = ys.length by omega, List.take_length] at h
  exact decide_eq_true h
theorem tim_same {a b : TimerD} : (a = b) = (a.name = b.name ∧ a.ver = b.ver ∧ a.tick = b.tick ∧ a.every = b.every ∧ a.steps = b.steps) := by
  cases a; cases b; simp
theorem opd_same {a b : OpD} : (a = b) = (a.kind = b.kind ∧ a.key = b.key ∧ a.step = b.step ∧ a.timer = b.timer) := by
  cases a; cases b; simp
end Go.Proofs.YtiiklnghnifmjaaGreatDoor.Act
set_option linter.unusedVariables false
set_option maxRecDepth 100000
set_option maxHeartbeats 1000000
set_option linter.unusedSimpArgs false
namespace Go.Proofs.YtiiklnghnifmjaaGreatDoor.Act
open Go.RowKit Go.Proofs.YtiiklnghnifmjaaGreatDoor.Sx Go.Proofs.YtiiklnghnifmjaaGreatDoor.Cod Go.Proofs.YtiiklnghnifmjaaGreatDoor.Num
theorem ty43 : TyI Tryz.prog 43 (.agg #[.string (strOfNums []), .int .i64 0, .slice none 0 0]) 3 48 true := ⟨by kernel_rfl, _, Tryz.underlying43, rfl⟩
theorem r9same_calls (w0 : World) {ok1 : Nat → Prop} {A1 : Option Addr} {xs1 : List StepD} {c1 : Nat} (hr1 : Rd StE w0 ok1 A1 xs1 c1) {ok2 : Nat → Prop} {A2 : Option Addr} {xs2 : List StepD} {c2 : Nat} (hr2 : Rd StE w0 ok2 A2 xs2 c2) (hb1 : ∀ s ∈ xs1, StepB s) (hb2 : ∀ s ∈ xs2, StepB s) : Calls Tryz.prog 107 #[.slice A1 xs1.length c1, .slice A2 xs2.length c2] w0 fun e w' => e = .returned (.bool (decide (xs1 = xs2))) ∧ Mods (fun _ => False) w0 w' := by
 refine cow Tryz.func107 rfl Tryz.ntmps107 (Nat.le_of_ble_eq_true rfl) fun a F => ?_
 have H := Hp.nil (fun _ => False) w0
 have H := H.arg 901 hr1.all (fun _ h => ⟨h, fun h => h⟩)
 have hle901 := hr1.le; unfold maxLen at hle901
 have H := H.arg 902 hr2.all (fun _ h => ⟨h, fun h => h⟩)
 have hle902 := hr2.le; unfold maxLen at hle902
 refine sr fun _ hK1 => la F rfl (x_assign rfl) fun a F => wn (hK1 _ _ ?_)
 refine wp_seq_k fun _ hK2 => ?_
 refine sr fun _ hK3 => la F rfl (x_move (F.t 0 rfl)) fun a F => la F rfl (x_len_slice Tryz.underlying62 (F.t 6 rfl)) fun a F => la F rfl (x_move (F.t 1 rfl)) fun a F => la F rfl (x_len_slice Tryz.underlying62 (F.t 8 rfl)) fun a F => la F rfl (x_neq (F.t 7 rfl) (F.t 9 rfl)) fun a F => wn (hK3 _ _ ?_)
 refine wp_cond_split (F.t 10 rfl) (fun hc10 => ?_) (fun hc10 => ?_)
 ·have hk10_1 := hc10; try simp only [bL] at hc10
  have hz := same_len (xs := xs1) (ys := xs2) (by omega)
  refine sr fun _ hK4 => la F rfl (x_assign rfl) fun a F => wn (hK4 _ _ ?_)
  refine wp_ret ?_
  try simp only [Exit.then, Exit.inBlock]
  exact fin_ret F (res1 F rfl rfl) ⟨by rw [hz] <;> rfl, H.mods⟩
 have hk10_2 := hc10; try simp only [bL] at hc10
 have hll : (xs1.length : Int) = xs2.length := by omega
 refine wp_skip (hK2 _ _ ?_)
 refine wp_seq_k fun _ hK5 => ?_
 refine sr fun _ hK6 => la F rfl (x_assign rfl) fun a F => wn (hK6 _ _ (wp_block ?_))
 refine wp_loop_ghost (fun n_ a w => ∃ k : Nat, n_ = xs1.length - k ∧ (k ≤ xs1.length) ∧ (xs1.take k = xs2.take k) ∧ Fr 26 a [(0, .slice A1 xs1.length c1), (1, .slice A2 xs2.length c2), (5, .int .i64 (k : Int))] ∧ Hp (fun _ => False) w0 w [(901, .rd_ StE A1 xs1 c1 (fun k => k < w0.heap.size)), (902, .rd_ StE A2 xs2 c2 (fun k => k < w0.heap.size))]) (xs1.length) ?_ ?_
 ·exact ⟨0, rfl, by omega, rfl, (((F.bare.add F 5 rfl).add F 1 rfl).add F 0 rfl), H.sub _ (sub_cons (sub_cons (sub_nil _) 902 rfl) 901 rfl)⟩
 rintro _ a w ⟨k, rfl, hq0_0, hq0_1, F, H⟩
 refine wp_seq_k fun _ hK7 => ?_
 refine sr fun _ hK8 => la F rfl (x_move (F.t 5 rfl)) fun a F => la F rfl (x_move (F.t 0 rfl)) fun a F => la F rfl (x_len_slice Tryz.underlying62 (F.t 12 rfl)) fun a F => la F rfl (x_lss (F.t 11 rfl) (F.t 13 rfl)) fun a F => wn (hK8 _ _ ?_)
 refine wp_cond_split (F.t 14 rfl) (fun hc14 => ?_) (fun hc14 => ?_)
 ·have hk14_3 := hc14; try simp only [bL] at hc14
  obtain ⟨hf1_0, hf1_1, hf1_2, hf1_3, hfw1⟩ := rd_st ((H.rd 901 rfl)) (gst_some (xs := xs1) (i := (k : Int)) (by omega) (by omega))
  have H := H.subcels 901 rfl 1499 hfw1 (Rd.inok ((H.rd 901 rfl)) (by omega) _)
  have H := H.subcel 901 rfl 1500 hf1_0 (Rd.inok ((H.rd 901 rfl)) (by omega) _)
  have H := H.subcel 901 rfl 1501 hf1_1 (Rd.inok ((H.rd 901 rfl)) (by omega) _)
  have H := H.subcel 901 rfl 1502 hf1_2 (Rd.inok ((H.rd 901 rfl)) (by omega) _)
  have H := H.subcel 901 rfl 1503 hf1_3 (Rd.inok ((H.rd 901 rfl)) (by omega) _)
  obtain ⟨hf2_0, hf2_1, hf2_2, hf2_3, hfw2⟩ := rd_st ((H.rd 902 rfl)) (gst_some (xs := xs2) (i := (k : Int)) (by omega) (by omega))
  have H := H.subcels 902 rfl 2499 hfw2 (Rd.inok ((H.rd 902 rfl)) (by omega) _)
  have H := H.subcel 902 rfl 2500 hf2_0 (Rd.inok ((H.rd 902 rfl)) (by omega) _)
  have H := H.subcel 902 rfl 2501 hf2_1 (Rd.inok ((H.rd 902 rfl)) (by omega) _)
  have H := H.subcel 902 rfl 2502 hf2_2 (Rd.inok ((H.rd 902 rfl)) (by omega) _)
  have H := H.subcel 902 rfl 2503 hf2_3 (Rd.inok ((H.rd 902 rfl)) (by omega) _)
  have hm1 := gst_mem (xs := xs1) (j := k) (by omega)
  have hm2 := gst_mem (xs := xs2) (j := k) (by omega)
  refine wp_skip (hK7 _ _ ?_)
  refine wp_seq_k fun _ hK9 => ?_
  refine wp_block ?_
  refine wp_seq_k fun _ hK10 => ?_
  refine r_start [(901, .rd_ StE A1 xs1 c1 (fun k => k < w0.heap.size)), (902, .rd_ StE A2 xs2 c2 (fun k => k < w0.heap.size)), (1499, .cels (adr A1 (Int.toNat (k : Int) * 4)) #[.int .i64 (gst xs1 (k : Int)).1, .string (strOfNums (gst xs1 (k : Int)).2.1), .string (strOfNums (gst xs1 (k : Int)).2.2.1), .int .i64 (gst xs1 (k : Int)).2.2.2]), (1500, .cel (adr A1 (Int.toNat (k : Int) * 4)) (.int .i64 (gst xs1 (k : Int)).1)), (1501, .cel (adr A1 (Int.toNat (k : Int) * 4 + 1)) (.string (strOfNums (gst xs1 (k : Int)).2.1))), (1502, .cel (adr A1 (Int.toNat (k : Int) * 4 + 2)) (.string (strOfNums (gst xs1 (k : Int)).2.2.1))), (1503, .cel (adr A1 (Int.toNat (k : Int) * 4 + 3)) (.int .i64 (gst xs1 (k : Int)).2.2.2)), (2499, .cels (adr A2 (Int.toNat (k : Int) * 4)) #[.int .i64 (gst xs2 (k : Int)).1, .string (strOfNums (gst xs2 (k : Int)).2.1), .string (strOfNums (gst xs2 (k : Int)).2.2.1), .int .i64 (gst xs2 (k : Int)).2.2.2]), (2500, .cel (adr A2 (Int.toNat (k : Int) * 4)) (.int .i64 (gst xs2 (k : Int)).1)), (2501, .cel (adr A2 (Int.toNat (k : Int) * 4 + 1)) (.string (strOfNums (gst xs2 (k : Int)).2.1))), (2502, .cel (adr A2 (Int.toNat (k : Int) * 4 + 2)) (.string (strOfNums (gst xs2 (k : Int)).2.2.1))), (2503, .cel (adr A2 (Int.toNat (k : Int) * 4 + 3)) (.int .i64 (gst xs2 (k : Int)).2.2.2))] (by kernel_rfl) H fun H => ?_
  have hS : SL [(901, .rd_ StE A1 xs1 c1 (fun k => k < w0.heap.size)), (902, .rd_ StE A2 xs2 c2 (fun k => k < w0.heap.size)), (1499, .cels (adr A1 (Int.toNat (k : Int) * 4)) #[.int .i64 (gst xs1 (k : Int)).1, .string (strOfNums (gst xs1 (k : Int)).2.1), .string (strOfNums (gst xs1 (k : Int)).2.2.1), .int .i64 (gst xs1 (k : Int)).2.2.2]), (1500, .cel (adr A1 (Int.toNat (k : Int) * 4)) (.int .i64 (gst xs1 (k : Int)).1)), (1501, .cel (adr A1 (Int.toNat (k : Int) * 4 + 1)) (.string (strOfNums (gst xs1 (k : Int)).2.1))), (1502, .cel (adr A1 (Int.toNat (k : Int) * 4 + 2)) (.string (strOfNums (gst xs1 (k : Int)).2.2.1))), (1503, .cel (adr A1 (Int.toNat (k : Int) * 4 + 3)) (.int .i64 (gst xs1 (k : Int)).2.2.2)), (2499, .cels (adr A2 (Int.toNat (k : Int) * 4)) #[.int .i64 (gst xs2 (k : Int)).1, .string (strOfNums (gst xs2 (k : Int)).2.1), .string (strOfNums (gst xs2 (k : Int)).2.2.1), .int .i64 (gst xs2 (k : Int)).2.2.2]), (2500, .cel (adr A2 (Int.toNat (k : Int) * 4)) (.int .i64 (gst xs2 (k : Int)).1)), (2501, .cel (adr A2 (Int.toNat (k : Int) * 4 + 1)) (.string (strOfNums (gst xs2 (k : Int)).2.1))), (2502, .cel (adr A2 (Int.toNat (k : Int) * 4 + 2)) (.string (strOfNums (gst xs2 (k : Int)).2.2.1))), (2503, .cel (adr A2 (Int.toNat (k : Int) * 4 + 3)) (.int .i64 (gst xs2 (k : Int)).2.2.2))] _ := SL.of H (sub_cons (sub_cons (sub_cons (sub_cons (sub_cons (sub_cons (sub_cons (sub_cons (sub_cons (sub_cons (sub_cons (sub_cons (sub_nil _) 2503 rfl) 2502 rfl) 2501 rfl) 2500 rfl) 2499 rfl) 1503 rfl) 1502 rfl) 1501 rfl) 1500 rfl) 1499 rfl) 902 rfl) 901 rfl)
  refine rT 0 F rfl (by kernel_rfl) pq rfl hS (fun w hS => x_move (F.t 0 rfl)) rfl fun a F => ?_
  refine rT 1 F rfl (by kernel_rfl) pq rfl hS (fun w hS => x_move (F.t 5 rfl)) rfl fun a F => ?_
  refine rT 2 F rfl (by kernel_rfl) pq rfl hS (fun w hS => x_iaddr_A Tryz.underlying62 ty91 ((H.rd 901 rfl)) (F.t 17 rfl) (F.t 18 rfl) (by omega) (by omega) _) rfl fun a F => ?_
  refine rT 3 F rfl (by kernel_rfl) pq rfl hS (fun w hS => x_loadn ty91 (F.t 19 rfl) rfl (hS 1499 _ rfl)) rfl fun a F => ?_
  refine rT 4 F rfl (by kernel_rfl) pq rfl hS (fun w hS => x_move (F.t 1 rfl)) rfl fun a F => ?_
  refine rT 5 F rfl (by kernel_rfl) pq rfl hS (fun w hS => x_move (F.t 5 rfl)) rfl fun a F => ?_
  refine rT 6 F rfl (by kernel_rfl) pq rfl hS (fun w hS => x_iaddr_A Tryz.underlying62 ty91 ((H.rd 902 rfl)) (F.t 21 rfl) (F.t 22 rfl) (by omega) (by omega) _) rfl fun a F => ?_
  refine rT 7 F rfl (by kernel_rfl) pq rfl hS (fun w hS => x_loadn ty91 (F.t 23 rfl) rfl (hS 2499 _ rfl)) rfl fun a F => ?_
  refine rT 8 F rfl (by kernel_rfl) pq rfl hS (fun w hS => st_nes (x := (gst xs1 (k : Int))) (y := (gst xs2 (k : Int))) (hb1 _ hm1).1 (hb2 _ hm2).1 (hb1 _ hm1).2.1 (hb2 _ hm2).2.1 (F.t 20 rfl) (F.t 24 rfl)) rfl fun a F => ?_
  refine r_end (by kernel_rfl) ?_; clear hS
  refine hK10 _ _ ?_
  refine wp_cond_split (F.t 25 rfl) (fun hc25 => ?_) (fun hc25 => ?_)
  ·have hk25_4 := hc25; try simp only [bL] at hc25
   have hz := same_at (xs := xs1) (ys := xs2) (fun l => gst l (k : Int)) hc25
   refine sr fun _ hK11 => la F rfl (x_assign rfl) fun a F => wn (hK11 _ _ ?_)
   refine wp_ret ?_
   try simp only [Exit.then, Exit.inBlock]
   exact fin_ret F (res1 F rfl rfl) ⟨by rw [hz] <;> rfl, H.mods⟩
  have hk25_5 := hc25; try simp only [bL] at hc25
  refine wp_skip (hK9 _ _ ?_)
  refine wp_region_lit ?_
  refine la F rfl (x_move (F.t 5 rfl)) fun a F => la F rfl (x_add (F.t 15 rfl) rfl (w64 (by omega) (by omega))) fun a F => la F rfl (x_assign (F.t 16 rfl)) fun a F => ?_
  refine wpList_nil ?_
  exact ⟨_, by omega, ⟨k + 1, rfl, by omega, same_step (gst_some (xs := xs1) (i := (k : Int)) (by omega) (by omega)) (gst_some (xs := xs2) (i := (k : Int)) (by omega) (by omega)) hq0_1 hc25, (((F.bare.add F 5 rfl).add F 1 rfl).add F 0 rfl), H.sub _ (sub_cons (sub_cons (sub_nil _) 902 rfl) 901 rfl)⟩⟩
 have hk14_6 := hc14; try simp only [bL] at hc14
 have hz := same_yes (xs := xs1) (ys := xs2) (k := k) (by omega) hll hq0_1
 refine wp_exit ?_
 refine hK5 _ _ (sr fun _ hK12 => la F rfl (x_assign rfl) fun a F => wn (hK12 _ _ ?_))
 refine wp_ret ?_
 try simp only [Exit.then, Exit.inBlock]
 exact fin_ret F (res1 F rfl rfl) ⟨by rw [hz] <;> rfl, H.mods⟩
theorem r10same_calls (w0 : World) {p q : TimerD} {okp0 : Nat → Prop} {Ap0 : Option Addr} {cp0 : Nat} (hrp0 : Rd StE w0 okp0 Ap0 p.steps cp0) {okq0 : Nat → Prop} {Aq0 : Option Addr} {cq0 : Nat} (hrq0 : Rd StE w0 okq0 Aq0 q.steps cq0) (ha : TimerB p) (hb : TimerB q) : Calls Tryz.prog 89 #[.agg #[.string (strOfNums p.name), .int .i64 p.ver, .int .u64 p.tick, .int .u64 p.every, .slice Ap0 p.steps.length cp0], .agg #[.string (strOfNums q.name), .int .i64 q.ver, .int .u64 q.tick, .int .u64 q.every, .slice Aq0 q.steps.length cq0]] w0 fun e w' => e = .returned (.bool (decide (p = q))) ∧ Mods (fun _ => False) w0 w' := by
 refine cow Tryz.func89 rfl Tryz.ntmps89 (Nat.le_of_ble_eq_true rfl) fun a F => ?_
 have H := Hp.nil (fun _ => False) w0
 have H := H.arg 900 hrp0.all (fun _ h => ⟨h, fun h => h⟩)
 have hlep0 := hrp0.le; unfold maxLen at hlep0
 have H := H.arg 950 hrq0.all (fun _ h => ⟨h, fun h => h⟩)
 have hleq0 := hrq0.le; unfold maxLen at hleq0
 refine sr fun _ hK1 => ?_
 refine lp rfl ?_
 refine w_box 2 F H rfl (F.t 0 rfl) ?_
 clear F H; intro a w b2 F H
 refine lp rfl ?_
 refine w_box 3 F H rfl (F.t 1 rfl) ?_
 clear F H; intro a w b3 F H
 refine la F rfl (x_assign rfl) fun a F => wn (hK1 _ _ (sr fun _ hK2 => la F rfl (x_faddr Tryz.underlying64 rfl ty62 (by decide) (F.t 2 rfl) rfl) fun a F => la F rfl (x_load1 ty62 (F.t 6 rfl) (blk_cell (H.at 2 rfl) 4 rfl)) fun a F => la F rfl (x_faddr Tryz.underlying64 rfl ty62 (by decide) (F.t 3 rfl) rfl) fun a F => la F rfl (x_load1 ty62 (F.t 8 rfl) (blk_cell (H.at 3 rfl) 4 rfl)) fun a F => ?_))
 refine lp rfl ?_
 refine w_call F (x_enter Tryz.func107 (by kernel_rfl) rfl (by simp only [bM, F.t 7 rfl, F.t 9 rfl] <;> rfl)) (r9same_calls _ ((H.rd 900 rfl)) ((H.rd 950 rfl)) ha.steps hb.steps) rfl rfl ?_
 rintro _ w ⟨rfl, hm_⟩; refine ⟨_, rfl, ?_⟩; clear F; intro a F; have H := H.same hm_
 refine la F rfl (x_assign (F.t 10 rfl)) fun a F => wn (hK2 _ _ (sr fun _ hK3 => la F rfl (x_faddr Tryz.underlying64 rfl ty9 (by decide) (F.t 2 rfl) rfl) fun a F => la F rfl (x_load1 ty9 (F.t 11 rfl) (blk_cell (H.at 2 rfl) 0 rfl)) fun a F => la F rfl (x_faddr Tryz.underlying64 rfl ty9 (by decide) (F.t 3 rfl) rfl) fun a F => la F rfl (x_load1 ty9 (F.t 13 rfl) (blk_cell (H.at 3 rfl) 0 rfl)) fun a F => la F rfl (x_eqn (xs := p.name) (ys := q.name) (F.t 12 rfl) (F.t 14 rfl) ha.name hb.name) fun a F => ?_))
 refine la F rfl (x_move (F.t 15 rfl)) fun a F => ?_
 refine split_bool F 16 rfl (fun hb16 => ?_) (fun hb16 => ?_)
 ·have hc16 := hb16; try simp only [bL] at hc16
  refine lgs F hb16 rfl (x_faddr Tryz.underlying64 rfl ty3 (by decide) (F.t 2 rfl) rfl) fun a F => lgs F hb16 rfl (x_load1 ty3 (F.t 17 rfl) (blk_cell (H.at 2 rfl) 1 rfl)) fun a F => lgs F hb16 rfl (x_faddr Tryz.underlying64 rfl ty3 (by decide) (F.t 3 rfl) rfl) fun a F => lgs F hb16 rfl (x_load1 ty3 (F.t 19 rfl) (blk_cell (H.at 3 rfl) 1 rfl)) fun a F => lgs F hb16 rfl (x_eql (F.t 18 rfl) (F.t 20 rfl)) fun a F => la F rfl (x_pickT (F.t 16 rfl) hb16 (F.t 21 rfl)) fun a F => la F rfl (x_move (F.t 22 rfl)) fun a F => ?_
  refine split_bool F 23 rfl (fun hb23 => ?_) (fun hb23 => ?_)
  ·have hc23 := hb23; try simp only [bL] at hc23
   refine lgs F hb23 rfl (x_faddr Tryz.underlying64 rfl ty59 (by decide) (F.t 2 rfl) rfl) fun a F => lgs F hb23 rfl (x_load1 ty59 (F.t 24 rfl) (blk_cell (H.at 2 rfl) 2 rfl)) fun a F => lgs F hb23 rfl (x_faddr Tryz.underlying64 rfl ty59 (by decide) (F.t 3 rfl) rfl) fun a F => lgs F hb23 rfl (x_load1 ty59 (F.t 26 rfl) (blk_cell (H.at 3 rfl) 2 rfl)) fun a F => lgs F hb23 rfl (x_eql (F.t 25 rfl) (F.t 27 rfl)) fun a F => la F rfl (x_pickT (F.t 23 rfl) hb23 (F.t 28 rfl)) fun a F => la F rfl (x_move (F.t 29 rfl)) fun a F => ?_
   refine split_bool F 30 rfl (fun hb30 => ?_) (fun hb30 => ?_)
   ·have hc30 := hb30; try simp only [bL] at hc30
    refine lgs F hb30 rfl (x_faddr Tryz.underlying64 rfl ty59 (by decide) (F.t 2 rfl) rfl) fun a F => lgs F hb30 rfl (x_load1 ty59 (F.t 31 rfl) (blk_cell (H.at 2 rfl) 3 rfl)) fun a F => lgs F hb30 rfl (x_faddr Tryz.underlying64 rfl ty59 (by decide) (F.t 3 rfl) rfl) fun a F => lgs F hb30 rfl (x_load1 ty59 (F.t 33 rfl) (blk_cell (H.at 3 rfl) 3 rfl)) fun a F => lgs F hb30 rfl (x_eql (F.t 32 rfl) (F.t 34 rfl)) fun a F => la F rfl (x_pickT (F.t 30 rfl) hb30 (F.t 35 rfl)) fun a F => la F rfl (x_move (F.t 36 rfl)) fun a F => ?_
    refine split_bool F 37 rfl (fun hb37 => ?_) (fun hb37 => ?_)
    ·have hc37 := hb37; try simp only [bL] at hc37
     refine lgs F hb37 rfl (x_move (F.t 5 rfl)) fun a F => la F rfl (x_pickT (F.t 37 rfl) hb37 (F.t 38 rfl)) fun a F => la F rfl (x_assign (F.t 39 rfl)) fun a F => wn (hK3 _ _ ?_)
     refine wp_ret ?_
     try simp only [Exit.then, Exit.inBlock]
     have hv : (decide (p.steps = q.steps)) = decide (p = q) := by rw [Bool.eq_iff_iff]; simp only [decide_eq_true_iff, tim_same]; first | (simp [hc16, hc23, hc30, hc37]; done) | (simp [hc16, hc23, hc30, hc37]; omega)
     exact fin_ret F (res1 (v := .bool (decide (p.steps = q.steps))) F rfl rfl) ⟨by rw [hv], H.mods⟩
    have hc37 := hb37; try simp only [bL] at hc37
    refine los F hb37 rfl fun a F => la F rfl (x_pickF (F.t 37 rfl) hb37 rfl) fun a F => la F rfl (x_assign (F.t 39 rfl)) fun a F => wn (hK3 _ _ ?_)
    refine wp_ret ?_
    try simp only [Exit.then, Exit.inBlock]
    have hv : false = decide (p = q) := by rw [Bool.eq_iff_iff]; simp only [decide_eq_true_iff, tim_same]; first | (simp [hc16, hc23, hc30, hc37]; done) | (simp [hc16, hc23, hc30, hc37]; omega)
    exact fin_ret F (res1 (v := .bool false) F rfl rfl) ⟨by rw [hv], H.mods⟩
   have hc30 := hb30; try simp only [bL] at hc30
   refine los F hb30 rfl fun a F => los F hb30 rfl fun a F => los F hb30 rfl fun a F => los F hb30 rfl fun a F => los F hb30 rfl fun a F => la F rfl (x_pickF (F.t 30 rfl) hb30 rfl) fun a F => la F rfl (x_move (F.t 36 rfl)) fun a F => lo F rfl fun a F => ?_
   refine la F rfl (x_pickF (F.t 37 rfl) rfl rfl) fun a F => la F rfl (x_assign (F.t 39 rfl)) fun a F => wn (hK3 _ _ ?_)
   refine wp_ret ?_
   try simp only [Exit.then, Exit.inBlock]
   have hv : false = decide (p = q) := by rw [Bool.eq_iff_iff]; simp only [decide_eq_true_iff, tim_same]; first | (simp [hc16, hc23, hc30]; done) | (simp [hc16, hc23, hc30]; omega)
   exact fin_ret F (res1 (v := .bool false) F rfl rfl) ⟨by rw [hv], H.mods⟩
  have hc23 := hb23; try simp only [bL] at hc23
  refine los F hb23 rfl fun a F => los F hb23 rfl fun a F => los F hb23 rfl fun a F => los F hb23 rfl fun a F => los F hb23 rfl fun a F => la F rfl (x_pickF (F.t 23 rfl) hb23 rfl) fun a F => la F rfl (x_move (F.t 29 rfl)) fun a F => lo F rfl fun a F => ?_
  refine lo F rfl fun a F => lo F rfl fun a F => lo F rfl fun a F => lo F rfl fun a F => la F rfl (x_pickF (F.t 30 rfl) rfl rfl) fun a F => la F rfl (x_move (F.t 36 rfl)) fun a F => lo F rfl fun a F => la F rfl (x_pickF (F.t 37 rfl) rfl rfl) fun a F => ?_
  refine la F rfl (x_assign (F.t 39 rfl)) fun a F => wn (hK3 _ _ ?_)
  refine wp_ret ?_
  try simp only [Exit.then, Exit.inBlock]
  have hv : false = decide (p = q) := by rw [Bool.eq_iff_iff]; simp only [decide_eq_true_iff, tim_same]; first | (simp [hc16, hc23]; done) | (simp [hc16, hc23]; omega)
  exact fin_ret F (res1 (v := .bool false) F rfl rfl) ⟨by rw [hv], H.mods⟩
 have hc16 := hb16; try simp only [bL] at hc16
 refine los F hb16 rfl fun a F => los F hb16 rfl fun a F => los F hb16 rfl fun a F => los F hb16 rfl fun a F => los F hb16 rfl fun a F => la F rfl (x_pickF (F.t 16 rfl) hb16 rfl) fun a F => la F rfl (x_move (F.t 22 rfl)) fun a F => lo F rfl fun a F => ?_
 refine lo F rfl fun a F => lo F rfl fun a F => lo F rfl fun a F => lo F rfl fun a F => la F rfl (x_pickF (F.t 23 rfl) rfl rfl) fun a F => la F rfl (x_move (F.t 29 rfl)) fun a F => lo F rfl fun a F => lo F rfl fun a F => ?_
 refine lo F rfl fun a F => lo F rfl fun a F => lo F rfl fun a F => la F rfl (x_pickF (F.t 30 rfl) rfl rfl) fun a F => la F rfl (x_move (F.t 36 rfl)) fun a F => lo F rfl fun a F => la F rfl (x_pickF (F.t 37 rfl) rfl rfl) fun a F => la F rfl (x_assign (F.t 39 rfl)) fun a F => ?_
 refine wn (hK3 _ _ ?_)
 refine wp_ret ?_
 try simp only [Exit.then, Exit.inBlock]
 have hv : false = decide (p = q) := by rw [Bool.eq_iff_iff]; simp only [decide_eq_true_iff, tim_same]; first | (simp [hc16]; done) | (simp [hc16]; omega)
 exact fin_ret F (res1 (v := .bool false) F rfl rfl) ⟨by rw [hv], H.mods⟩
theorem refEnc_at {w0 : World} {ok : Nat → Prop} {A : Option Addr} {xs : List Fld} {c : Nat} (hr : Rd FE w0 ok A xs c) {ys : List Int} (h : encR xs = some ys) : Calls Tryz.prog 34 #[.slice A xs.length c] w0 fun e w' => ∃ v er, e = .returned (.tuple #[v, .int .i64 er]) ∧ Mods (fun _ => False) w0 w' ∧ RowOut (.int .u8) 5 w0 w' v ys := by
 refine (refEnc_calls w0 hr).mono ?_
 rintro e w' ⟨v, he, h1, h2⟩
 rw [h] at h2
 exact ⟨v, _, he, h1, h2⟩
theorem raenc_calls (w0 : World) {ok : Nat → Prop} {A : Option Addr} {xs : List StepD} {c : Nat} (hr : Rd StE w0 ok A xs c) (hbs : ∀ s ∈ xs, StepB s) : Calls Tryz.prog 70 #[.slice A xs.length c] w0 fun e w' => ∃ v, e = .returned (.tuple #[v, .int .i64 (encE xs)]) ∧ Mods (fun _ => False) w0 w' ∧ RowOut (.int .u8) 5 w0 w' v (encT xs) := by
 refine cow Tryz.func70 rfl Tryz.ntmps70 (Nat.le_of_ble_eq_true rfl) fun a F => ?_
 have H := Hp.nil (fun _ => False) w0
 have H := H.arg 901 hr.all (fun _ h => ⟨h, fun h => h⟩)
 have hle901 := hr.le; unfold maxLen at hle901
 refine sr fun _ hK1 => la F rfl (x_assign rfl) fun a F => la F rfl (x_assign rfl) fun a F => wn (hK1 _ _ ?_)
 refine wp_seq_k fun _ hK2 => ?_
 refine sr fun _ hK3 => la F rfl (x_move (F.t 0 rfl)) fun a F => la F rfl (x_len_slice Tryz.underlying62 (F.t 10 rfl)) fun a F => la F rfl (x_gtr (F.t 11 rfl) rfl) fun a F => wn (hK3 _ _ ?_)
 refine wp_cond_split (F.t 12 rfl) (fun hc12 => ?_) (fun hc12 => ?_)
 ·have hk12_1 := hc12; try simp only [bL] at hc12
  have hz := enc_many hc12
  refine sr fun _ hK4 => la F rfl (x_assign rfl) fun a F => la F rfl (x_assign rfl) fun a F => wn (hK4 _ _ ?_)
  refine wp_ret ?_
  try simp only [Exit.then, Exit.inBlock]
  have hz2 := encT_0 (xs := xs) (by rw [hz]; decide)
  exact fin_ret F (res2 F rfl rfl rfl) ⟨.slice none 0 0, by rw [hz] <;> rfl, H.mods, by rw [hz2]; exact RowOut.nil _ _ _ _⟩
 have hk12_2 := hc12; try simp only [bL] at hc12
 refine wp_skip (hK2 _ _ (sr fun _ hK5 => la F rfl (x_assign rfl) fun a F => ?_))
 have H := H.row0 4 FE 57
 refine wn (hK5 _ _ ?_)
 refine wp_seq_k fun _ hK6 => ?_
 refine sr fun _ hK7 => la F rfl (x_assign rfl) fun a F => wn (hK7 _ _ (wp_block ?_))
 refine wp_loop_ghost (fun n_ a w => ∃ k : Nat, ∃ v4 : Value, ∃ okv : Nat → Prop, n_ = xs.length - k ∧ (k ≤ xs.length) ∧ ((xs.take k).all rightS = true) ∧ Fr 75 a [(0, .slice A xs.length c), (4, v4), (5, .int .i64 (k : Int))] ∧ Hp (fun _ => False) w0 w [(901, .rd_ StE A xs c (fun k => k < w0.heap.size)), (4, .row FE 57 v4 ((xs.take k).map fldS) okv)]) (xs.length) ?_ ?_
 ·exact ⟨0, .slice none 0 0, (fun _ => False), rfl, by omega, rfl, (((F.bare.add F 5 rfl).add F 4 rfl).add F 0 rfl), H.sub _ (sub_cons (sub_cons (sub_nil _) 4 rfl) 901 rfl)⟩
 rintro _ a w ⟨k, v4, okv, rfl, hq0_0, hq0_1, F, H⟩
 refine wp_seq_k fun _ hK8 => ?_
 refine sr fun _ hK9 => la F rfl (x_move (F.t 5 rfl)) fun a F => la F rfl (x_move (F.t 0 rfl)) fun a F => la F rfl (x_len_slice Tryz.underlying62 (F.t 14 rfl)) fun a F => la F rfl (x_lss (F.t 13 rfl) (F.t 15 rfl)) fun a F => wn (hK9 _ _ ?_)
 refine wp_cond_split (F.t 16 rfl) (fun hc16 => ?_) (fun hc16 => ?_)
 ·have hk16_3 := hc16; try simp only [bL] at hc16
  refine wp_skip (hK8 _ _ ?_)
  refine wp_seq_k fun _ hK10 => ?_
  refine wp_block (sr fun _ hK11 => ?_)
  obtain ⟨hf1_0, hf1_1, hf1_2, hf1_3, hfw1⟩ := rd_st ((H.rd 901 rfl)) (gst_some (xs := xs) (i := (k : Int)) (by omega) (by omega))
  have H := H.subcels 901 rfl 1499 hfw1 (Rd.inok ((H.rd 901 rfl)) (by omega) _)
  have H := H.subcel 901 rfl 1500 hf1_0 (Rd.inok ((H.rd 901 rfl)) (by omega) _)
  have H := H.subcel 901 rfl 1501 hf1_1 (Rd.inok ((H.rd 901 rfl)) (by omega) _)
  have H := H.subcel 901 rfl 1502 hf1_2 (Rd.inok ((H.rd 901 rfl)) (by omega) _)
  have H := H.subcel 901 rfl 1503 hf1_3 (Rd.inok ((H.rd 901 rfl)) (by omega) _)
  have hmem := gst_mem (xs := xs) (j := k) (by omega)
  refine la F rfl (x_move (F.t 0 rfl)) fun a F => la F rfl (x_move (F.t 5 rfl)) fun a F => la F rfl (x_iaddr_A Tryz.underlying62 ty91 ((H.rd 901 rfl)) (F.t 19 rfl) (F.t 20 rfl) (by omega) (by omega) _) fun a F => la F rfl (x_loadn ty91 (F.t 21 rfl) rfl (H.holds 1499 _ rfl)) fun a F => ?_
  refine lp rfl ?_
  refine w_call F (x_enter Tryz.func101 (by kernel_rfl) rfl (by simp only [bM, F.t 22 rfl] <;> rfl)) (rright_calls _ (gst xs (k : Int))) rfl rfl ?_
  rintro _ w ⟨rfl, hm_⟩; refine ⟨_, rfl, ?_⟩; clear F; intro a F; have H := H.same hm_
  refine la F rfl (x_assign (F.t 23 rfl)) fun a F => wn (hK11 _ _ ?_)
  refine wp_seq_k fun _ hK12 => ?_
  refine sr fun _ hK13 => la F rfl (x_move (F.t 6 rfl)) fun a F => la F rfl (x_not (F.t 24 rfl)) fun a F => wn (hK13 _ _ ?_)
  refine wp_cond_split (F.t 25 rfl) (fun hc25 => ?_) (fun hc25 => ?_)
  ·have hk25_4 := hc25; try simp only [bL] at hc25
   have hz := enc_bad hc12 (by omega) (by simpa using hc25)
   refine sr fun _ hK14 => la F rfl (x_assign rfl) fun a F => la F rfl (x_assign rfl) fun a F => wn (hK14 _ _ ?_)
   refine wp_ret ?_
   try simp only [Exit.then, Exit.inBlock]
   have hz2 := encT_0 (xs := xs) (by rw [hz]; decide)
   exact fin_ret F (res2 F rfl rfl rfl) ⟨.slice none 0 0, by rw [hz] <;> rfl, H.mods, by rw [hz2]; exact RowOut.nil _ _ _ _⟩
  have hk25_5 := hc25; try simp only [bL] at hc25
  have hcr : rightS (gst xs (k : Int)) = true := by simpa using hc25
  refine wp_skip (hK12 _ _ (sr fun _ hK15 => la F rfl (x_move (F.t 0 rfl)) fun a F => la F rfl (x_move (F.t 5 rfl)) fun a F => la F rfl (x_iaddr_A Tryz.underlying62 ty91 ((H.rd 901 rfl)) (F.t 26 rfl) (F.t 27 rfl) (by omega) (by omega) _) fun a F => la F rfl (x_faddrA ((H.rd 901 rfl)) (by omega) _ Tryz.underlying91 rfl ty9 (by decide) (F.t 28 rfl) rfl) fun a F => la F rfl (x_load1 ty9 (F.t 29 rfl) (H.holds 1502 _ rfl)) fun a F => ?_))
  refine la F rfl (x_assign (F.t 30 rfl)) fun a F => wn (hK15 _ _ ?_)
  refine wp_seq_k fun khK16 hK16 => ?_
  refine sr fun _ hK17 => la F rfl (x_move (F.t 0 rfl)) fun a F => la F rfl (x_move (F.t 5 rfl)) fun a F => la F rfl (x_iaddr_A Tryz.underlying62 ty91 ((H.rd 901 rfl)) (F.t 31 rfl) (F.t 32 rfl) (by omega) (by omega) _) fun a F => la F rfl (x_faddrA ((H.rd 901 rfl)) (by omega) _ Tryz.underlying91 rfl ty89 (by decide) (F.t 33 rfl) rfl) fun a F => la F rfl (x_load1 ty89 (F.t 34 rfl) (H.holds 1500 _ rfl)) fun a F => la F rfl (x_eql (F.t 35 rfl) rfl) fun a F => wn (hK17 _ _ ?_)
  have hJ36 : ∀ a w, Fr 75 a [(0, .slice A xs.length c), (4, v4), (5, .int .i64 (k : Int)), (7, .string (strOfNums (restS (gst xs (k : Int)))))] → Hp (fun _ => False) w0 w [(901, .rd_ StE A xs c (fun k => k < w0.heap.size)), (4, .row FE 57 v4 ((xs.take k).map fldS) okv), (1499, .cels (adr A (Int.toNat (k : Int) * 4)) #[.int .i64 (gst xs (k : Int)).1, .string (strOfNums (gst xs (k : Int)).2.1), .string (strOfNums (gst xs (k : Int)).2.2.1), .int .i64 (gst xs (k : Int)).2.2.2]), (1500, .cel (adr A (Int.toNat (k : Int) * 4)) (.int .i64 (gst xs (k : Int)).1)), (1501, .cel (adr A (Int.toNat (k : Int) * 4 + 1)) (.string (strOfNums (gst xs (k : Int)).2.1))), (1502, .cel (adr A (Int.toNat (k : Int) * 4 + 2)) (.string (strOfNums (gst xs (k : Int)).2.2.1))), (1503, .cel (adr A (Int.toNat (k : Int) * 4 + 3)) (.int .i64 (gst xs (k : Int)).2.2.2))] → khK16 a w := by
   intro a w  F H
   refine hK16 a w ?_
   refine r_start [(901, .rd_ StE A xs c (fun k => k < w0.heap.size)), (1499, .cels (adr A (Int.toNat (k : Int) * 4)) #[.int .i64 (gst xs (k : Int)).1, .string (strOfNums (gst xs (k : Int)).2.1), .string (strOfNums (gst xs (k : Int)).2.2.1), .int .i64 (gst xs (k : Int)).2.2.2]), (1500, .cel (adr A (Int.toNat (k : Int) * 4)) (.int .i64 (gst xs (k : Int)).1)), (1501, .cel (adr A (Int.toNat (k : Int) * 4 + 1)) (.string (strOfNums (gst xs (k : Int)).2.1))), (1502, .cel (adr A (Int.toNat (k : Int) * 4 + 2)) (.string (strOfNums (gst xs (k : Int)).2.2.1))), (1503, .cel (adr A (Int.toNat (k : Int) * 4 + 3)) (.int .i64 (gst xs (k : Int)).2.2.2))] (by kernel_rfl) H fun H => ?_
   have hS : SL [(901, .rd_ StE A xs c (fun k => k < w0.heap.size)), (1499, .cels (adr A (Int.toNat (k : Int) * 4)) #[.int .i64 (gst xs (k : Int)).1, .string (strOfNums (gst xs (k : Int)).2.1), .string (strOfNums (gst xs (k : Int)).2.2.1), .int .i64 (gst xs (k : Int)).2.2.2]), (1500, .cel (adr A (Int.toNat (k : Int) * 4)) (.int .i64 (gst xs (k : Int)).1)), (1501, .cel (adr A (Int.toNat (k : Int) * 4 + 1)) (.string (strOfNums (gst xs (k : Int)).2.1))), (1502, .cel (adr A (Int.toNat (k : Int) * 4 + 2)) (.string (strOfNums (gst xs (k : Int)).2.2.1))), (1503, .cel (adr A (Int.toNat (k : Int) * 4 + 3)) (.int .i64 (gst xs (k : Int)).2.2.2))] _ := SL.of H (sub_cons (sub_cons (sub_cons (sub_cons (sub_cons (sub_cons (sub_nil _) 1503 rfl) 1502 rfl) 1501 rfl) 1500 rfl) 1499 rfl) 901 rfl)
   refine rT 0 F rfl (by kernel_rfl) pq rfl hS (fun w hS => x_move (F.t 4 rfl)) rfl fun a F => ?_
   refine rT 1 F rfl (by kernel_rfl) pq rfl hS (fun w hS => x_move (F.t 0 rfl)) rfl fun a F => ?_
   refine rT 2 F rfl (by kernel_rfl) pq rfl hS (fun w hS => x_move (F.t 5 rfl)) rfl fun a F => ?_
   refine rT 3 F rfl (by kernel_rfl) pq rfl hS (fun w hS => x_iaddr_A Tryz.underlying62 ty91 ((H.rd 901 rfl)) (F.t 44 rfl) (F.t 45 rfl) (by omega) (by omega) _) rfl fun a F => ?_
   refine rT 4 F rfl (by kernel_rfl) pq rfl hS (fun w hS => x_faddrA ((SL.rd hS 901 rfl)) (by omega) _ Tryz.underlying91 rfl ty89 (by decide) (F.t 46 rfl) rfl) rfl fun a F => ?_
   refine rT 5 F rfl (by kernel_rfl) pq rfl hS (fun w hS => x_load1 ty89 (F.t 47 rfl) (hS 1500 _ rfl)) rfl fun a F => ?_
   refine rT 6 F rfl (by kernel_rfl) pq rfl hS (fun w hS => x_move (F.t 0 rfl)) rfl fun a F => ?_
   refine rT 7 F rfl (by kernel_rfl) pq rfl hS (fun w hS => x_move (F.t 5 rfl)) rfl fun a F => ?_
   refine rT 8 F rfl (by kernel_rfl) pq rfl hS (fun w hS => x_iaddr_A Tryz.underlying62 ty91 ((H.rd 901 rfl)) (F.t 49 rfl) (F.t 50 rfl) (by omega) (by omega) _) rfl fun a F => ?_
   refine rT 9 F rfl (by kernel_rfl) pq rfl hS (fun w hS => x_faddrA ((SL.rd hS 901 rfl)) (by omega) _ Tryz.underlying91 rfl ty9 (by decide) (F.t 51 rfl) rfl) rfl fun a F => ?_
   refine rT 10 F rfl (by kernel_rfl) pq rfl hS (fun w hS => x_load1 ty9 (F.t 52 rfl) (hS 1501 _ rfl)) rfl fun a F => ?_
   refine rT 11 F rfl (by kernel_rfl) pq rfl hS (fun w hS => x_len_sn (xs := ((gst xs (k : Int)).2.1)) Tryz.underlying9 (F.t 53 rfl)) rfl fun a F => ?_
   refine rT 12 F rfl (by kernel_rfl) pq rfl hS (fun w hS => x_conv Tryz.underlying5 ⟨_, Tryz.underlying3⟩ (F.t 54 rfl) (key_wrap hcr)) rfl fun a F => ?_
   refine rT 14 F rfl (by kernel_rfl) pq rfl hS (fun w hS => x_move (F.t 0 rfl)) rfl fun a F => ?_
   refine rT 15 F rfl (by kernel_rfl) pq rfl hS (fun w hS => x_move (F.t 5 rfl)) rfl fun a F => ?_
   refine rT 16 F rfl (by kernel_rfl) pq rfl hS (fun w hS => x_iaddr_A Tryz.underlying62 ty91 ((H.rd 901 rfl)) (F.t 57 rfl) (F.t 58 rfl) (by omega) (by omega) _) rfl fun a F => ?_
   refine rT 17 F rfl (by kernel_rfl) pq rfl hS (fun w hS => x_faddrA ((SL.rd hS 901 rfl)) (by omega) _ Tryz.underlying91 rfl ty9 (by decide) (F.t 59 rfl) rfl) rfl fun a F => ?_
   refine rT 18 F rfl (by kernel_rfl) pq rfl hS (fun w hS => x_load1 ty9 (F.t 60 rfl) (hS 1501 _ rfl)) rfl fun a F => ?_
   refine rT 19 F rfl (by kernel_rfl) pq rfl hS (fun w hS => x_move (F.t 7 rfl)) rfl fun a F => ?_
   refine rT 20 F rfl (by kernel_rfl) pq rfl hS (fun w hS => x_adds (xs := ((gst xs (k : Int)).2.1)) (ys := (restS (gst xs (k : Int)))) (F.t 61 rfl) (F.t 62 rfl) (by have := key_len hcr; have := restS_len hcr (hbs _ hmem); omega)) rfl fun a F => ?_
   refine r_do2 13 21 rfl rfl (by kernel_rfl) rfl rfl rfl rfl ?_ ?_
   ·
    refine w_lit 40 (enc := Value.int .u8) (h1 := fun _ => rfl) ([((gst xs (k : Int)).2.1.length : Int)]) F H rfl Tryz.underlying27 ty5 (by simp only [bM, F.t 55 rfl]; rfl) rfl (by decide) (by decide) (by kernel_rfl) ?_
    clear F H; intro a w b56 F H
    refine aN (SL.of H (sub_cons (sub_cons (sub_cons (sub_cons (sub_cons (sub_cons (sub_nil _) 1503 rfl) 1502 rfl) 1501 rfl) 1500 rfl) 1499 rfl) 901 rfl)) fun hS => ?_
    refine r_do 21 rfl (by kernel_rfl) rfl rfl ?_
    refine w_s2b 64 (xs := (((gst xs (k : Int)).2.1) ++ (restS (gst xs (k : Int))))) F H rfl Tryz.underlying9 Tryz.underlying27 Tryz.underlying5 (F.t 63 rfl) ((hbs _ hmem).1.app (restS_byte (hbs _ hmem))) (by have := key_len hcr; have := restS_len hcr (hbs _ hmem); simp only [List.length_append]; omega) ?_
    clear F H; intro a w b64 c64 hb64_ F H
    refine aN (SL.of H (sub_cons (sub_cons (sub_cons (sub_cons (sub_cons (sub_cons (sub_nil _) 1503 rfl) 1502 rfl) 1501 rfl) 1500 rfl) 1499 rfl) 901 rfl)) fun hS => ?_
    refine r_do 22 rfl (by kernel_rfl) rfl rfl ?_
    refine w_append 40 64 (xs := ([((gst xs (k : Int)).2.1.length : Int)])) (ys := (((gst xs (k : Int)).2.1) ++ (restS (gst xs (k : Int))))) F H rfl Tryz.underlying27 ty5 rfl rfl rfl rfl ((H.rd 64 rfl)) oI (F.t 56 rfl) (F.t 64 rfl) (by have := key_len hcr; have := restS_len hcr (hbs _ hmem); simp only [List.length_cons, List.length_nil, List.length_append]; omega) (by have := key_len hcr; have := restS_len hcr (hbs _ hmem); simp only [List.length_cons, List.length_nil, List.length_append, maxLen]; omega) (fun _ => False) (fun w' v' h => row_flat h _) (fun k_ hk_ => hk_.elim) ?_
    clear F H; intro a w v65 F H
    refine aN (SL.of H (sub_cons (sub_cons (sub_cons (sub_cons (sub_cons (sub_cons (sub_nil _) 1503 rfl) 1502 rfl) 1501 rfl) 1500 rfl) 1499 rfl) 901 rfl)) fun hS => ?_
    obtain ⟨A65, c65, rfl⟩ := (H.row 40 rfl).form
    have H := H.freeze 40 rfl (fun kb => (Value.slice A65 (([((gst xs (k : Int)).2.1.length : Int)]) ++ (((gst xs (k : Int)).2.1) ++ (restS (gst xs (k : Int))))).length c65).ownBlock = some kb) (fun kb => ⟨fun h => .inr h, fun h => h.resolve_left id⟩)
    refine rT 23 F rfl (by kernel_rfl) pq rfl hS (fun w hS => x_buildS (cells := #[.int .i64 (gst xs (k : Int)).1, .slice A65 (([((gst xs (k : Int)).2.1.length : Int)]) ++ (((gst xs (k : Int)).2.1) ++ (restS (gst xs (k : Int))))).length c65]) (places := #[(0, 1), (1, 1)]) Tryz.underlying57 ty57 (by kernel_rfl) (by simp only [bM, F.t 48 rfl, F.t 65 rfl] <;> rfl) rfl) rfl fun a F => ?_
    refine r_do 24 rfl (by kernel_rfl) rfl rfl ?_
    refine w_lit1 67 FE (((gst xs (k : Int)).1, (([((gst xs (k : Int)).2.1.length : Int)]) ++ (((gst xs (k : Int)).2.1) ++ (restS (gst xs (k : Int)))))) : Fld) #[.int .i64 ((gst xs (k : Int)).1), .slice A65 (([((gst xs (k : Int)).2.1.length : Int)]) ++ (((gst xs (k : Int)).2.1) ++ (restS (gst xs (k : Int))))).length c65] (fun kb => (Value.slice A65 (([((gst xs (k : Int)).2.1.length : Int)]) ++ (((gst xs (k : Int)).2.1) ++ (restS (gst xs (k : Int))))).length c65).ownBlock = some kb) F H rfl Tryz.underlying60 ty57 (by simp only [bM, F.t 66 rfl] <;> rfl) (by decide) (by kernel_rfl) (fld_mk (f := (((gst xs (k : Int)).1, (([((gst xs (k : Int)).2.1.length : Int)]) ++ (((gst xs (k : Int)).2.1) ++ (restS (gst xs (k : Int)))))) : Fld)) ((H.rd 40 rfl))) (fun kb hk => ⟨40, _, rfl, hk⟩) ?_
    clear F H; intro a w b67 F hb67_ H
    refine aN (SL.of H (sub_cons (sub_cons (sub_cons (sub_cons (sub_cons (sub_cons (sub_nil _) 1503 rfl) 1502 rfl) 1501 rfl) 1500 rfl) 1499 rfl) 901 rfl)) fun hS => ?_
    refine r_do 25 rfl (by kernel_rfl) rfl rfl ?_
    refine w_append 4 67 (xs := ((xs.take k).map fldS)) (ys := ([(((gst xs (k : Int)).1, (([((gst xs (k : Int)).2.1.length : Int)]) ++ (((gst xs (k : Int)).2.1) ++ (restS (gst xs (k : Int)))))) : Fld)])) F H rfl Tryz.underlying60 ty57 rfl rfl rfl rfl ((H.rd 67 rfl)) oI (F.t 43 rfl) (F.t 67 rfl) (by simp only [lN] at *; omega) (by simp only [lN, maxLen] at *; omega) (fun kb => okv kb ∨ (fun kb => (fun kb => (Value.slice A65 (([((gst xs (k : Int)).2.1.length : Int)]) ++ (((gst xs (k : Int)).2.1) ++ (restS (gst xs (k : Int))))).length c65).ownBlock = some kb) kb ∨ kb = b67) kb) (fun w' v' h => h) (by rintro k_ (hk_ | hk_); exact .inl hk_; exact .inr hk_) ?_
    clear F H; intro a w v68 F H
    refine aN (SL.of H (sub_cons (sub_cons (sub_cons (sub_cons (sub_cons (sub_cons (sub_nil _) 1503 rfl) 1502 rfl) 1501 rfl) 1500 rfl) 1499 rfl) 901 rfl)) fun hS => ?_
    refine rT 26 F rfl (by kernel_rfl) pq rfl hS (fun w hS => x_assign (F.t 68 rfl)) rfl fun a F => ?_
    refine r_end (by kernel_rfl) ?_; clear hS
    refine hK10 _ _ ?_
    refine wp_region_lit ?_
    refine la F rfl (x_move (F.t 5 rfl)) fun a F => la F rfl (x_add (F.t 17 rfl) rfl (w64 (by omega) (by omega))) fun a F => la F rfl (x_assign (F.t 18 rfl)) fun a F => ?_
    refine wpList_nil ?_
    have hHs : Hp (fun _ => False) w0 w [(901, .rd_ StE A xs c (fun k => k < w0.heap.size)), (4, .row FE 57 v68 (((xs.take k).map fldS) ++ [(((gst xs (k : Int)).1, ([(((gst xs (k : Int)).2.1.length : Int))] ++ ((gst xs (k : Int)).2.1 ++ restS (gst xs (k : Int))))) : Fld)]) (fun kb => okv kb ∨ (fun kb => (fun kb => (Value.slice A65 (([((gst xs (k : Int)).2.1.length : Int)]) ++ (((gst xs (k : Int)).2.1) ++ (restS (gst xs (k : Int))))).length c65).ownBlock = some kb) kb ∨ kb = b67) kb))] := H.sub _ (sub_cons (sub_cons (sub_nil _) 4 rfl) 901 rfl)
    rw [show ((xs.take k).map fldS) ++ [(((gst xs (k : Int)).1, ([(((gst xs (k : Int)).2.1.length : Int))] ++ ((gst xs (k : Int)).2.1 ++ restS (gst xs (k : Int))))) : Fld)] = (xs.take (k + 1)).map fldS from fld_stepL hc16] at hHs
    exact ⟨_, by omega, ⟨k + 1, v68, (fun kb => okv kb ∨ (fun kb => (fun kb => (Value.slice A65 (([((gst xs (k : Int)).2.1.length : Int)]) ++ (((gst xs (k : Int)).2.1) ++ (restS (gst xs (k : Int))))).length c65).ownBlock = some kb) kb ∨ kb = b67) kb), rfl, by omega, right_step hc16 hq0_1 hcr, (((F.bare.add F 5 rfl).add F 4 rfl).add F 0 rfl), hHs⟩⟩
   ·
    refine w_s2b 64 (xs := (((gst xs (k : Int)).2.1) ++ (restS (gst xs (k : Int))))) F H rfl Tryz.underlying9 Tryz.underlying27 Tryz.underlying5 (F.t 63 rfl) ((hbs _ hmem).1.app (restS_byte (hbs _ hmem))) (by have := key_len hcr; have := restS_len hcr (hbs _ hmem); simp only [List.length_append]; omega) ?_
    clear F H; intro a w b64 c64 hb64_ F H
    refine aN (SL.of H (sub_cons (sub_cons (sub_cons (sub_cons (sub_cons (sub_cons (sub_nil _) 1503 rfl) 1502 rfl) 1501 rfl) 1500 rfl) 1499 rfl) 901 rfl)) fun hS => ?_
    refine r_do 13 rfl (by kernel_rfl) rfl rfl ?_
    refine w_lit 40 (enc := Value.int .u8) (h1 := fun _ => rfl) ([((gst xs (k : Int)).2.1.length : Int)]) F H rfl Tryz.underlying27 ty5 (by simp only [bM, F.t 55 rfl]; rfl) rfl (by decide) (by decide) (by kernel_rfl) ?_
    clear F H; intro a w b56 F H
    refine aN (SL.of H (sub_cons (sub_cons (sub_cons (sub_cons (sub_cons (sub_cons (sub_nil _) 1503 rfl) 1502 rfl) 1501 rfl) 1500 rfl) 1499 rfl) 901 rfl)) fun hS => ?_
    refine r_do 22 rfl (by kernel_rfl) rfl rfl ?_
    refine w_append 40 64 (xs := ([((gst xs (k : Int)).2.1.length : Int)])) (ys := (((gst xs (k : Int)).2.1) ++ (restS (gst xs (k : Int))))) F H rfl Tryz.underlying27 ty5 rfl rfl rfl rfl ((H.rd 64 rfl)) oI (F.t 56 rfl) (F.t 64 rfl) (by have := key_len hcr; have := restS_len hcr (hbs _ hmem); simp only [List.length_cons, List.length_nil, List.length_append]; omega) (by have := key_len hcr; have := restS_len hcr (hbs _ hmem); simp only [List.length_cons, List.length_nil, List.length_append, maxLen]; omega) (fun _ => False) (fun w' v' h => row_flat h _) (fun k_ hk_ => hk_.elim) ?_
    clear F H; intro a w v65 F H
    refine aN (SL.of H (sub_cons (sub_cons (sub_cons (sub_cons (sub_cons (sub_cons (sub_nil _) 1503 rfl) 1502 rfl) 1501 rfl) 1500 rfl) 1499 rfl) 901 rfl)) fun hS => ?_
    obtain ⟨A65, c65, rfl⟩ := (H.row 40 rfl).form
    have H := H.freeze 40 rfl (fun kb => (Value.slice A65 (([((gst xs (k : Int)).2.1.length : Int)]) ++ (((gst xs (k : Int)).2.1) ++ (restS (gst xs (k : Int))))).length c65).ownBlock = some kb) (fun kb => ⟨fun h => .inr h, fun h => h.resolve_left id⟩)
    refine rT 23 F rfl (by kernel_rfl) pq rfl hS (fun w hS => x_buildS (cells := #[.int .i64 (gst xs (k : Int)).1, .slice A65 (([((gst xs (k : Int)).2.1.length : Int)]) ++ (((gst xs (k : Int)).2.1) ++ (restS (gst xs (k : Int))))).length c65]) (places := #[(0, 1), (1, 1)]) Tryz.underlying57 ty57 (by kernel_rfl) (by simp only [bM, F.t 48 rfl, F.t 65 rfl] <;> rfl) rfl) rfl fun a F => ?_
    refine r_do 24 rfl (by kernel_rfl) rfl rfl ?_
    refine w_lit1 67 FE (((gst xs (k : Int)).1, (([((gst xs (k : Int)).2.1.length : Int)]) ++ (((gst xs (k : Int)).2.1) ++ (restS (gst xs (k : Int)))))) : Fld) #[.int .i64 ((gst xs (k : Int)).1), .slice A65 (([((gst xs (k : Int)).2.1.length : Int)]) ++ (((gst xs (k : Int)).2.1) ++ (restS (gst xs (k : Int))))).length c65] (fun kb => (Value.slice A65 (([((gst xs (k : Int)).2.1.length : Int)]) ++ (((gst xs (k : Int)).2.1) ++ (restS (gst xs (k : Int))))).length c65).ownBlock = some kb) F H rfl Tryz.underlying60 ty57 (by simp only [bM, F.t 66 rfl] <;> rfl) (by decide) (by kernel_rfl) (fld_mk (f := (((gst xs (k : Int)).1, (([((gst xs (k : Int)).2.1.length : Int)]) ++ (((gst xs (k : Int)).2.1) ++ (restS (gst xs (k : Int)))))) : Fld)) ((H.rd 40 rfl))) (fun kb hk => ⟨40, _, rfl, hk⟩) ?_
    clear F H; intro a w b67 F hb67_ H
    refine aN (SL.of H (sub_cons (sub_cons (sub_cons (sub_cons (sub_cons (sub_cons (sub_nil _) 1503 rfl) 1502 rfl) 1501 rfl) 1500 rfl) 1499 rfl) 901 rfl)) fun hS => ?_
    refine r_do 25 rfl (by kernel_rfl) rfl rfl ?_
    refine w_append 4 67 (xs := ((xs.take k).map fldS)) (ys := ([(((gst xs (k : Int)).1, (([((gst xs (k : Int)).2.1.length : Int)]) ++ (((gst xs (k : Int)).2.1) ++ (restS (gst xs (k : Int)))))) : Fld)])) F H rfl Tryz.underlying60 ty57 rfl rfl rfl rfl ((H.rd 67 rfl)) oI (F.t 43 rfl) (F.t 67 rfl) (by simp only [lN] at *; omega) (by simp only [lN, maxLen] at *; omega) (fun kb => okv kb ∨ (fun kb => (fun kb => (Value.slice A65 (([((gst xs (k : Int)).2.1.length : Int)]) ++ (((gst xs (k : Int)).2.1) ++ (restS (gst xs (k : Int))))).length c65).ownBlock = some kb) kb ∨ kb = b67) kb) (fun w' v' h => h) (by rintro k_ (hk_ | hk_); exact .inl hk_; exact .inr hk_) ?_
    clear F H; intro a w v68 F H
    refine aN (SL.of H (sub_cons (sub_cons (sub_cons (sub_cons (sub_cons (sub_cons (sub_nil _) 1503 rfl) 1502 rfl) 1501 rfl) 1500 rfl) 1499 rfl) 901 rfl)) fun hS => ?_
    refine rT 26 F rfl (by kernel_rfl) pq rfl hS (fun w hS => x_assign (F.t 68 rfl)) rfl fun a F => ?_
    refine r_end (by kernel_rfl) ?_; clear hS
    refine hK10 _ _ ?_
    refine wp_region_lit ?_
    refine la F rfl (x_move (F.t 5 rfl)) fun a F => la F rfl (x_add (F.t 17 rfl) rfl (w64 (by omega) (by omega))) fun a F => la F rfl (x_assign (F.t 18 rfl)) fun a F => ?_
    refine wpList_nil ?_
    have hHs : Hp (fun _ => False) w0 w [(901, .rd_ StE A xs c (fun k => k < w0.heap.size)), (4, .row FE 57 v68 (((xs.take k).map fldS) ++ [(((gst xs (k : Int)).1, ([(((gst xs (k : Int)).2.1.length : Int))] ++ ((gst xs (k : Int)).2.1 ++ restS (gst xs (k : Int))))) : Fld)]) (fun kb => okv kb ∨ (fun kb => (fun kb => (Value.slice A65 (([((gst xs (k : Int)).2.1.length : Int)]) ++ (((gst xs (k : Int)).2.1) ++ (restS (gst xs (k : Int))))).length c65).ownBlock = some kb) kb ∨ kb = b67) kb))] := H.sub _ (sub_cons (sub_cons (sub_nil _) 4 rfl) 901 rfl)
    rw [show ((xs.take k).map fldS) ++ [(((gst xs (k : Int)).1, ([(((gst xs (k : Int)).2.1.length : Int))] ++ ((gst xs (k : Int)).2.1 ++ restS (gst xs (k : Int))))) : Fld)] = (xs.take (k + 1)).map fldS from fld_stepL hc16] at hHs
    exact ⟨_, by omega, ⟨k + 1, v68, (fun kb => okv kb ∨ (fun kb => (fun kb => (Value.slice A65 (([((gst xs (k : Int)).2.1.length : Int)]) ++ (((gst xs (k : Int)).2.1) ++ (restS (gst xs (k : Int))))).length c65).ownBlock = some kb) kb ∨ kb = b67) kb), rfl, by omega, right_step hc16 hq0_1 hcr, (((F.bare.add F 5 rfl).add F 4 rfl).add F 0 rfl), hHs⟩⟩
  refine wp_cond_split (F.t 36 rfl) (fun hc36 => ?_) (fun hc36 => ?_)
  ·have hk36_6 := hc36; try simp only [bL] at hc36
   refine wp_region_lit ?_
   refine la F rfl (x_move (F.t 0 rfl)) fun a F => la F rfl (x_move (F.t 5 rfl)) fun a F => la F rfl (x_iaddr_A Tryz.underlying62 ty91 ((H.rd 901 rfl)) (F.t 37 rfl) (F.t 38 rfl) (by omega) (by omega) _) fun a F => la F rfl (x_faddrA ((H.rd 901 rfl)) (by omega) _ Tryz.underlying91 rfl ty2 (by decide) (F.t 39 rfl) rfl) fun a F => la F rfl (x_load1 ty2 (F.t 40 rfl) (H.holds 1503 _ rfl)) fun a F => ?_
   refine lp rfl ?_
   refine w_call F (x_enter Tryz.func61 (by kernel_rfl) rfl (by simp only [bM, F.t 41 rfl] <;> rfl)) (text_calls _ (hbs _ hmem).2.2) rfl rfl ?_
   rintro _ w ⟨rfl, hm_⟩; refine ⟨_, rfl, ?_⟩; clear F; intro a F; have H := H.same hm_
   refine la F rfl (x_assign (F.t 42 rfl)) fun a F => ?_
   rw [restS_add hc36] at F
   refine wpList_nil ?_
   exact hJ36 _ _  ((((F.bare.add F 7 rfl).add F 5 rfl).add F 4 rfl).add F 0 rfl) (H.sub _ (sub_cons (sub_cons (sub_cons (sub_cons (sub_cons (sub_cons (sub_cons (sub_nil _) 1503 rfl) 1502 rfl) 1501 rfl) 1500 rfl) 1499 rfl) 4 rfl) 901 rfl))
  have hk36_7 := hc36; try simp only [bL] at hc36
  rw [restS_val hc36] at F
  refine wp_skip ?_
  exact hJ36 _ _  ((((F.bare.add F 7 rfl).add F 5 rfl).add F 4 rfl).add F 0 rfl) (H.sub _ (sub_cons (sub_cons (sub_cons (sub_cons (sub_cons (sub_cons (sub_cons (sub_nil _) 1503 rfl) 1502 rfl) 1501 rfl) 1500 rfl) 1499 rfl) 4 rfl) 901 rfl))
 have hk16_8 := hc16; try simp only [bL] at hc16
 refine wp_exit ?_
 refine hK6 _ _ (sr fun _ hK18 => ?_)
 obtain rfl : k = xs.length := by omega
 rw [List.take_length] at hq0_1 H
 obtain ⟨Av, cv, rfl⟩ := (H.row 4 rfl).form
 refine la F rfl (x_move (F.t 4 rfl)) fun a F => ?_
 refine lp rfl ?_
 refine w_call F (x_enter Tryz.func34 (by kernel_rfl) rfl (by simp only [bM, F.t 70 rfl] <;> rfl)) (refEnc_at (xs := xs.map fldS) (Row.rd (ok' := fun k_ => okv k_ ∨ (.slice Av ((xs.map fldS)).length cv : Value).ownBlock = some k_) (H.row 4 rfl) (fun _ hk_ _ => .inl hk_) (fun _ hk_ => .inr hk_)) (encR_of hc12 hq0_1 hbs)) rfl rfl ?_
 rintro _ w ⟨vr71, er71, rfl, hm_, hr_⟩; refine ⟨_, rfl, ?_⟩; clear F; intro a F; have H := Hp.rowOut H 71 hm_ hr_; obtain ⟨Ar71, cr71, rfl⟩ := (H.row 71 rfl).form
 refine la F rfl (x_move (F.t 71 rfl)) fun a F => la F rfl (x_extract (F.t 69 rfl) rfl) fun a F => la F rfl (x_extract (F.t 69 rfl) rfl) fun a F => la F rfl (x_assign (F.t 72 rfl)) fun a F => la F rfl (x_assign (F.t 73 rfl)) fun a F => wn (hK18 _ _ (sr fun _ hK19 => la F rfl (x_move (F.t 8 rfl)) fun a F => ?_))
 refine la F rfl (x_assign (F.t 74 rfl)) fun a F => la F rfl (x_assign rfl) fun a F => wn (hK19 _ _ ?_)
 refine wp_ret ?_
 try simp only [Exit.then, Exit.inBlock]
 have hz := enc_good hc12 hq0_1
 exact fin_ret F (res2 F rfl rfl rfl) ⟨_, by rw [hz] <;> rfl, H.mods, Hp.out H 71 rfl⟩
theorem r10right_calls (w0 : World) {t : TimerD} {okt0 : Nat → Prop} {At0 : Option Addr} {ct0 : Nat} (hrt0 : Rd StE w0 okt0 At0 t.steps ct0) (hb : TimerB t) : Calls Tryz.prog 87 #[.agg #[.string (strOfNums t.name), .int .i64 t.ver, .int .u64 t.tick, .int .u64 t.every, .slice At0 t.steps.length ct0]] w0 fun e w' => e = .returned (.bool (rightT t)) ∧ Mods (fun _ => False) w0 w' := by
 refine cow Tryz.func87 rfl Tryz.ntmps87 (Nat.le_of_ble_eq_true rfl) fun a F => ?_
 have H := Hp.nil (fun _ => False) w0
 have H := H.arg 900 hrt0.all (fun _ h => ⟨h, fun h => h⟩)
 have hlet0 := hrt0.le; unfold maxLen at hlet0
 refine sr fun _ hK1 => ?_
 refine lp rfl ?_
 refine w_box 1 F H rfl (F.t 0 rfl) ?_
 clear F H; intro a w b1 F H
 refine la F rfl (x_assign rfl) fun a F => wn (hK1 _ _ (sr fun _ hK2 => la F rfl (x_faddr Tryz.underlying64 rfl ty9 (by decide) (F.t 1 rfl) rfl) fun a F => la F rfl (x_load1 ty9 (F.t 6 rfl) (blk_cell (H.at 1 rfl) 0 rfl)) fun a F => ?_))
 refine lp rfl ?_
 refine w_call F (x_enter Tryz.func85 (by kernel_rfl) rfl (by simp only [bM, F.t 7 rfl] <;> rfl)) (rname_calls _ t.name) rfl rfl ?_
 rintro _ w ⟨rfl, hm_⟩; refine ⟨_, rfl, ?_⟩; clear F; intro a F; have H := H.same hm_
 refine la F rfl (x_assign (F.t 8 rfl)) fun a F => wn (hK2 _ _ (sr fun _ hK3 => la F rfl (x_faddr Tryz.underlying64 rfl ty62 (by decide) (F.t 1 rfl) rfl) fun a F => la F rfl (x_load1 ty62 (F.t 10 rfl) (blk_cell (H.at 1 rfl) 4 rfl)) fun a F => ?_))
 refine lp rfl ?_
 refine w_call F (x_enter Tryz.func70 (by kernel_rfl) rfl (by simp only [bM, F.t 11 rfl] <;> rfl)) (raenc_calls (xs := t.steps) _ ((H.rd 900 rfl)) hb.steps) rfl rfl ?_
 rintro _ w ⟨vr13, rfl, hm_, hr_⟩; refine ⟨_, rfl, ?_⟩; clear F; intro a F; have H := Hp.rowOut H 13 hm_ hr_; obtain ⟨Ar13, cr13, rfl⟩ := (H.row 13 rfl).form
 refine la F rfl (x_move (F.t 12 rfl)) fun a F => la F rfl (x_extract (F.t 9 rfl) rfl) fun a F => la F rfl (x_extract (F.t 9 rfl) rfl) fun a F => la F rfl (x_assign (F.t 13 rfl)) fun a F => la F rfl (x_assign (F.t 14 rfl)) fun a F => wn (hK3 _ _ (sr fun _ hK4 => la F rfl (x_move (F.t 3 rfl)) fun a F => ?_))
 refine la F rfl (x_move (F.t 15 rfl)) fun a F => ?_
 refine split_bool F 16 rfl (fun hb16 => ?_) (fun hb16 => ?_)
 ·have hc16 := hb16; try simp only [bL] at hc16
  refine lgs F hb16 rfl (x_faddr Tryz.underlying64 rfl ty3 (by decide) (F.t 1 rfl) rfl) fun a F => lgs F hb16 rfl (x_load1 ty3 (F.t 17 rfl) (blk_cell (H.at 1 rfl) 1 rfl)) fun a F => lgs F hb16 rfl (x_geq (F.t 18 rfl) rfl) fun a F => la F rfl (x_pickT (F.t 16 rfl) hb16 (F.t 19 rfl)) fun a F => la F rfl (x_move (F.t 20 rfl)) fun a F => ?_
  refine split_bool F 21 rfl (fun hb21 => ?_) (fun hb21 => ?_)
  ·have hc21 := hb21; try simp only [bL] at hc21
   refine lgs F hb21 rfl (x_faddr Tryz.underlying64 rfl ty3 (by decide) (F.t 1 rfl) rfl) fun a F => lgs F hb21 rfl (x_load1 ty3 (F.t 22 rfl) (blk_cell (H.at 1 rfl) 1 rfl)) fun a F => lgs F hb21 rfl (x_leq (F.t 23 rfl) rfl) fun a F => la F rfl (x_pickT (F.t 21 rfl) hb21 (F.t 24 rfl)) fun a F => la F rfl (x_move (F.t 25 rfl)) fun a F => ?_
   refine split_bool F 26 rfl (fun hb26 => ?_) (fun hb26 => ?_)
   ·have hc26 := hb26; try simp only [bL] at hc26
    refine lgs F hb26 rfl (x_faddr Tryz.underlying64 rfl ty59 (by decide) (F.t 1 rfl) rfl) fun a F => lgs F hb26 rfl (x_load1 ty59 (F.t 27 rfl) (blk_cell (H.at 1 rfl) 2 rfl)) fun a F => lgs F hb26 rfl (x_leq (F.t 28 rfl) rfl) fun a F => la F rfl (x_pickT (F.t 26 rfl) hb26 (F.t 29 rfl)) fun a F => la F rfl (x_move (F.t 30 rfl)) fun a F => ?_
    refine split_bool F 31 rfl (fun hb31 => ?_) (fun hb31 => ?_)
    ·have hc31 := hb31; try simp only [bL] at hc31
     refine lgs F hb31 rfl (x_faddr Tryz.underlying64 rfl ty59 (by decide) (F.t 1 rfl) rfl) fun a F => lgs F hb31 rfl (x_load1 ty59 (F.t 32 rfl) (blk_cell (H.at 1 rfl) 3 rfl)) fun a F => lgs F hb31 rfl (x_leq (F.t 33 rfl) rfl) fun a F => la F rfl (x_pickT (F.t 31 rfl) hb31 (F.t 34 rfl)) fun a F => la F rfl (x_move (F.t 35 rfl)) fun a F => ?_
     refine split_bool F 36 rfl (fun hb36 => ?_) (fun hb36 => ?_)
     ·have hc36 := hb36; try simp only [bL] at hc36
      refine lgs F hb36 rfl (x_move (F.t 5 rfl)) fun a F => lgs F hb36 rfl (x_eql (F.t 37 rfl) rfl) fun a F => la F rfl (x_pickT (F.t 36 rfl) hb36 (F.t 38 rfl)) fun a F => la F rfl (x_assign (F.t 39 rfl)) fun a F => wn (hK4 _ _ ?_)
      refine wp_ret ?_
      try simp only [Exit.then, Exit.inBlock]
      have hv : (decide ((encE t.steps) = 0)) = rightT t := by rw [rightT_ref]; first | (simp [hc16, hc21, hc26, hc31, hc36]; done) | (simp [hc16, hc21, hc26, hc31, hc36]; omega)
      exact fin_ret F (res1 (v := .bool (decide ((encE t.steps) = 0))) F rfl rfl) ⟨by rw [hv], H.mods⟩
     have hc36 := hb36; try simp only [bL] at hc36
     refine los F hb36 rfl fun a F => los F hb36 rfl fun a F => la F rfl (x_pickF (F.t 36 rfl) hb36 rfl) fun a F => la F rfl (x_assign (F.t 39 rfl)) fun a F => wn (hK4 _ _ ?_)
     refine wp_ret ?_
     try simp only [Exit.then, Exit.inBlock]
     have hv : false = rightT t := by rw [rightT_ref]; first | (simp [hc16, hc21, hc26, hc31, hc36]; done) | (simp [hc16, hc21, hc26, hc31, hc36]; omega)
     exact fin_ret F (res1 (v := .bool false) F rfl rfl) ⟨by rw [hv], H.mods⟩
    have hc31 := hb31; try simp only [bL] at hc31
    refine los F hb31 rfl fun a F => los F hb31 rfl fun a F => los F hb31 rfl fun a F => la F rfl (x_pickF (F.t 31 rfl) hb31 rfl) fun a F => la F rfl (x_move (F.t 35 rfl)) fun a F => lo F rfl fun a F => lo F rfl fun a F => la F rfl (x_pickF (F.t 36 rfl) rfl rfl) fun a F => ?_
    refine la F rfl (x_assign (F.t 39 rfl)) fun a F => wn (hK4 _ _ ?_)
    refine wp_ret ?_
    try simp only [Exit.then, Exit.inBlock]
    have hv : false = rightT t := by rw [rightT_ref]; first | (simp [hc16, hc21, hc26, hc31]; done) | (simp [hc16, hc21, hc26, hc31]; omega)
    exact fin_ret F (res1 (v := .bool false) F rfl rfl) ⟨by rw [hv], H.mods⟩
   have hc26 := hb26; try simp only [bL] at hc26
   refine los F hb26 rfl fun a F => los F hb26 rfl fun a F => los F hb26 rfl fun a F => la F rfl (x_pickF (F.t 26 rfl) hb26 rfl) fun a F => la F rfl (x_move (F.t 30 rfl)) fun a F => lo F rfl fun a F => lo F rfl fun a F => lo F rfl fun a F => ?_
   refine la F rfl (x_pickF (F.t 31 rfl) rfl rfl) fun a F => la F rfl (x_move (F.t 35 rfl)) fun a F => lo F rfl fun a F => lo F rfl fun a F => la F rfl (x_pickF (F.t 36 rfl) rfl rfl) fun a F => la F rfl (x_assign (F.t 39 rfl)) fun a F => wn (hK4 _ _ ?_)
   refine wp_ret ?_
   try simp only [Exit.then, Exit.inBlock]
   have hv : false = rightT t := by rw [rightT_ref]; first | (simp [hc16, hc21, hc26]; done) | (simp [hc16, hc21, hc26]; omega)
   exact fin_ret F (res1 (v := .bool false) F rfl rfl) ⟨by rw [hv], H.mods⟩
  have hc21 := hb21; try simp only [bL] at hc21
  refine los F hb21 rfl fun a F => los F hb21 rfl fun a F => los F hb21 rfl fun a F => la F rfl (x_pickF (F.t 21 rfl) hb21 rfl) fun a F => la F rfl (x_move (F.t 25 rfl)) fun a F => lo F rfl fun a F => lo F rfl fun a F => lo F rfl fun a F => ?_
  refine la F rfl (x_pickF (F.t 26 rfl) rfl rfl) fun a F => la F rfl (x_move (F.t 30 rfl)) fun a F => lo F rfl fun a F => lo F rfl fun a F => lo F rfl fun a F => la F rfl (x_pickF (F.t 31 rfl) rfl rfl) fun a F => la F rfl (x_move (F.t 35 rfl)) fun a F => lo F rfl fun a F => ?_
  refine lo F rfl fun a F => la F rfl (x_pickF (F.t 36 rfl) rfl rfl) fun a F => la F rfl (x_assign (F.t 39 rfl)) fun a F => wn (hK4 _ _ ?_)
  refine wp_ret ?_
  try simp only [Exit.then, Exit.inBlock]
  have hv : false = rightT t := by rw [rightT_ref]; first | (simp [hc16, hc21]; done) | (simp [hc16, hc21]; omega)
  exact fin_ret F (res1 (v := .bool false) F rfl rfl) ⟨by rw [hv], H.mods⟩
 have hc16 := hb16; try simp only [bL] at hc16
 refine los F hb16 rfl fun a F => los F hb16 rfl fun a F => los F hb16 rfl fun a F => la F rfl (x_pickF (F.t 16 rfl) hb16 rfl) fun a F => la F rfl (x_move (F.t 20 rfl)) fun a F => lo F rfl fun a F => lo F rfl fun a F => lo F rfl fun a F => ?_
 refine la F rfl (x_pickF (F.t 21 rfl) rfl rfl) fun a F => la F rfl (x_move (F.t 25 rfl)) fun a F => lo F rfl fun a F => lo F rfl fun a F => lo F rfl fun a F => la F rfl (x_pickF (F.t 26 rfl) rfl rfl) fun a F => la F rfl (x_move (F.t 30 rfl)) fun a F => lo F rfl fun a F => ?_
 refine lo F rfl fun a F => lo F rfl fun a F => la F rfl (x_pickF (F.t 31 rfl) rfl rfl) fun a F => la F rfl (x_move (F.t 35 rfl)) fun a F => lo F rfl fun a F => lo F rfl fun a F => la F rfl (x_pickF (F.t 36 rfl) rfl rfl) fun a F => la F rfl (x_assign (F.t 39 rfl)) fun a F => ?_
 refine wn (hK4 _ _ ?_)
 refine wp_ret ?_
 try simp only [Exit.then, Exit.inBlock]
 have hv : false = rightT t := by rw [rightT_ref]; first | (simp [hc16]; done) | (simp [hc16]; omega)
 exact fin_ret F (res1 (v := .bool false) F rfl rfl) ⟨by rw [hv], H.mods⟩
theorem r14bare_calls (w0 : World) {o : OpD} {oko0 : Nat → Prop} {Ao0 : Option Addr} {co0 : Nat} (hro0 : Rd StE w0 oko0 Ao0 o.timer.steps co0) (hb : OpB o) : Calls Tryz.prog 111 #[.agg #[.int .i64 o.kind, .string (strOfNums o.key), .int .i64 o.step.1, .string (strOfNums o.step.2.1), .string (strOfNums o.step.2.2.1), .int .i64 o.step.2.2.2, .string (strOfNums o.timer.name), .int .i64 o.timer.ver, .int .u64 o.timer.tick, .int .u64 o.timer.every, .slice Ao0 o.timer.steps.length co0]] w0 fun e w' => e = .returned (.tuple #[.bool (decide (o.step = zS)), .bool (decide (o.timer = zT))]) ∧ Mods (fun _ => False) w0 w' := by
 refine cow Tryz.func111 rfl Tryz.ntmps111 (Nat.le_of_ble_eq_true rfl) fun a F => ?_
 have H := Hp.nil (fun _ => False) w0
 have H := H.arg 900 hro0.all (fun _ h => ⟨h, fun h => h⟩)
 have hleo0 := hro0.le; unfold maxLen at hleo0
 refine sr fun _ hK1 => ?_
 refine lp rfl ?_
 refine w_box 1 F H rfl (F.t 0 rfl) ?_
 clear F H; intro a w b1 F H
 refine la F rfl (x_assign rfl) fun a F => la F rfl (x_assign rfl) fun a F => wn (hK1 _ _ (sr fun _ hK2 => la F rfl (x_faddr Tryz.underlying93 rfl ty64 (by decide) (F.t 1 rfl) rfl) fun a F => la F rfl (x_loadn (cs := #[.string (strOfNums o.timer.name), .int .i64 o.timer.ver, .int .u64 o.timer.tick, .int .u64 o.timer.every, .slice Ao0 o.timer.steps.length co0]) ty64 (F.t 5 rfl) rfl (blk_sub (H.at 1 rfl) 6 5 rfl)) fun a F => la F rfl (x_buildS (cells := #[.string (strOfNums []), .int .i64 0, .int .u64 0, .int .u64 0, .slice none 0 0]) (places := #[(0, 1), (1, 1), (2, 1), (3, 1), (4, 1)]) Tryz.underlying64 ty64 (by kernel_rfl) Array.map_empty rfl) fun a F => ?_))
 refine lp rfl ?_
 refine w_call F (x_enter Tryz.func89 (by kernel_rfl) rfl (by simp only [bM, F.t 6 rfl, F.t 7 rfl] <;> rfl)) (r10same_calls (p := o.timer) (q := zT) _ ((H.rd 900 rfl)) (Rd.nil StE _ (fun _ => False)) hb.timer zT_B) rfl rfl ?_
 rintro _ w ⟨rfl, hm_⟩; refine ⟨_, rfl, ?_⟩; clear F; intro a F; have H := H.same hm_
 refine la F rfl (x_assign (F.t 8 rfl)) fun a F => wn (hK2 _ _ (sr fun _ hK3 => la F rfl (x_faddr Tryz.underlying93 rfl ty91 (by decide) (F.t 1 rfl) rfl) fun a F => la F rfl (x_loadn (cs := #[.int .i64 o.step.1, .string (strOfNums o.step.2.1), .string (strOfNums o.step.2.2.1), .int .i64 o.step.2.2.2]) ty91 (F.t 9 rfl) rfl (blk_sub (H.at 1 rfl) 2 4 rfl)) fun a F => la F rfl (x_buildS (cells := #[.int .i64 0, .string (strOfNums []), .string (strOfNums []), .int .i64 0]) (places := #[(0, 1), (1, 1), (2, 1), (3, 1)]) Tryz.underlying91 ty91 (by kernel_rfl) Array.map_empty rfl) fun a F => la F rfl (st_eqs (x := o.step) (y := zS) hb.step.1 zS_B.1 hb.step.2.1 zS_B.2.1 (F.t 10 rfl) (F.t 11 rfl)) fun a F => la F rfl (x_move (F.t 4 rfl)) fun a F => ?_))
 refine la F rfl (x_assign (F.t 12 rfl)) fun a F => la F rfl (x_assign (F.t 13 rfl)) fun a F => wn (hK3 _ _ ?_)
 refine wp_ret ?_
 try simp only [Exit.then, Exit.inBlock]
 exact fin_ret F (res2 F rfl rfl rfl) ⟨rfl, H.mods⟩
theorem r14right_calls (w0 : World) {o : OpD} {oko0 : Nat → Prop} {Ao0 : Option Addr} {co0 : Nat} (hro0 : Rd StE w0 oko0 Ao0 o.timer.steps co0) (hb : OpB o) : Calls Tryz.prog 96 #[.agg #[.int .i64 o.kind, .string (strOfNums o.key), .int .i64 o.step.1, .string (strOfNums o.step.2.1), .string (strOfNums o.step.2.2.1), .int .i64 o.step.2.2.2, .string (strOfNums o.timer.name), .int .i64 o.timer.ver, .int .u64 o.timer.tick, .int .u64 o.timer.every, .slice Ao0 o.timer.steps.length co0]] w0 fun e w' => e = .returned (.bool (overO o)) ∧ Mods (fun _ => False) w0 w' := by
 refine cow Tryz.func96 rfl Tryz.ntmps96 (Nat.le_of_ble_eq_true rfl) fun a F => ?_
 have H := Hp.nil (fun _ => False) w0
 have H := H.arg 900 hro0.all (fun _ h => ⟨h, fun h => h⟩)
 have hleo0 := hro0.le; unfold maxLen at hleo0
 refine sr fun _ hK1 => ?_
 refine lp rfl ?_
 refine w_box 1 F H rfl (F.t 0 rfl) ?_
 clear F H; intro a w b1 F H
 refine la F rfl (x_assign rfl) fun a F => wn (hK1 _ _ (sr fun _ hK2 => la F rfl (x_faddr Tryz.underlying93 rfl ty9 (by decide) (F.t 1 rfl) rfl) fun a F => la F rfl (x_load1 ty9 (F.t 7 rfl) (blk_cell (H.at 1 rfl) 1 rfl)) fun a F => ?_))
 refine lp rfl ?_
 refine w_call F (x_enter Tryz.func85 (by kernel_rfl) rfl (by simp only [bM, F.t 8 rfl] <;> rfl)) (rname_calls _ o.key) rfl rfl ?_
 rintro _ w ⟨rfl, hm_⟩; refine ⟨_, rfl, ?_⟩; clear F; intro a F; have H := H.same hm_
 refine la F rfl (x_assign (F.t 9 rfl)) fun a F => wn (hK2 _ _ (sr fun _ hK3 => la F rfl (x_loadn ty93 (F.t 1 rfl) rfl (blk_whole (H.at 1 rfl))) fun a F => ?_))
 refine lp rfl ?_
 refine w_call F (x_enter Tryz.func111 (by kernel_rfl) rfl (by simp only [bM, F.t 11 rfl] <;> rfl)) (r14bare_calls (o := o) _ ((H.rd 900 rfl)) hb) rfl rfl ?_
 rintro _ w ⟨rfl, hm_⟩; refine ⟨_, rfl, ?_⟩; clear F; intro a F; have H := H.same hm_
 refine la F rfl (x_move (F.t 12 rfl)) fun a F => la F rfl (x_extract (F.t 10 rfl) rfl) fun a F => la F rfl (x_extract (F.t 10 rfl) rfl) fun a F => la F rfl (x_assign (F.t 13 rfl)) fun a F => la F rfl (x_assign (F.t 14 rfl)) fun a F => wn (hK3 _ _ ?_)
 refine wp_seq_k fun _ hK4 => ?_
 refine sr fun _ hK5 => la F rfl (x_faddr Tryz.underlying93 rfl ty88 (by decide) (F.t 1 rfl) rfl) fun a F => la F rfl (x_load1 ty88 (F.t 15 rfl) (blk_cell (H.at 1 rfl) 0 rfl)) fun a F => wn (hK5 _ _ (wp_block ?_))
 refine wp_seq_k fun _ hK6 => ?_
 refine sr fun _ hK7 => la F rfl (x_eql (F.t 16 rfl) rfl) fun a F => la F rfl (x_assign (F.t 18 rfl)) fun a F => wn (hK7 _ _ ?_)
 refine wp_cond_split (F.t 17 rfl) (fun hc17 => ?_) (fun hc17 => ?_)
 ·have hk17_1 := hc17; try simp only [bL] at hc17
  refine wp_skip (hK6 _ _ ?_)
  refine wp_cond_true ((F.t 17 rfl).trans (by rw [hk17_1])) ?_
  refine sr fun _ hK8 => la F rfl (x_move (F.t 3 rfl)) fun a F => la F rfl (x_move (F.t 20 rfl)) fun a F => ?_
  refine split_bool F 21 rfl (fun hb21 => ?_) (fun hb21 => ?_)
  ·have hc21 := hb21; try simp only [bL] at hc21
   refine lgs F hb21 rfl (x_move (F.t 4 rfl)) fun a F => la F rfl (x_pickT (F.t 21 rfl) hb21 (F.t 22 rfl)) fun a F => la F rfl (x_move (F.t 23 rfl)) fun a F => ?_
   refine split_bool F 24 rfl (fun hb24 => ?_) (fun hb24 => ?_)
   ·have hc24 := hb24; try simp only [bL] at hc24
    refine lgs F hb24 rfl (x_move (F.t 5 rfl)) fun a F => la F rfl (x_pickT (F.t 24 rfl) hb24 (F.t 25 rfl)) fun a F => la F rfl (x_assign (F.t 26 rfl)) fun a F => wn (hK8 _ _ ?_)
    refine wp_ret ?_
    try simp only [Exit.then, Exit.inBlock]
    have hv : (decide (o.timer = zT)) = overO o := by rw [overO_ref hb]; unfold ovR; first | (simp [hc17, hc21, hc24]; done) | (simp [hc17, hc21, hc24]; omega)
    exact fin_ret F (res1 (v := .bool (decide (o.timer = zT))) F rfl rfl) ⟨by rw [hv], H.mods⟩
   have hc24 := hb24; try simp only [bL] at hc24
   refine los F hb24 rfl fun a F => la F rfl (x_pickF (F.t 24 rfl) hb24 rfl) fun a F => la F rfl (x_assign (F.t 26 rfl)) fun a F => wn (hK8 _ _ ?_)
   refine wp_ret ?_
   try simp only [Exit.then, Exit.inBlock]
   have hv : false = overO o := by rw [overO_ref hb]; unfold ovR; first | (simp [hc17, hc21, hc24]; done) | (simp [hc17, hc21, hc24]; omega)
   exact fin_ret F (res1 (v := .bool false) F rfl rfl) ⟨by rw [hv], H.mods⟩
  have hc21 := hb21; try simp only [bL] at hc21
  refine los F hb21 rfl fun a F => la F rfl (x_pickF (F.t 21 rfl) hb21 rfl) fun a F => la F rfl (x_move (F.t 23 rfl)) fun a F => lo F rfl fun a F => la F rfl (x_pickF (F.t 24 rfl) rfl rfl) fun a F => la F rfl (x_assign (F.t 26 rfl)) fun a F => wn (hK8 _ _ ?_)
  refine wp_ret ?_
  try simp only [Exit.then, Exit.inBlock]
  have hv : false = overO o := by rw [overO_ref hb]; unfold ovR; first | (simp [hc17, hc21]; done) | (simp [hc17, hc21]; omega)
  exact fin_ret F (res1 (v := .bool false) F rfl rfl) ⟨by rw [hv], H.mods⟩
 have hk17_2 := hc17; try simp only [bL] at hc17
 refine wp_region_lit ?_
 refine la F rfl (x_eql (F.t 16 rfl) rfl) fun a F => la F rfl (x_assign (F.t 19 rfl)) fun a F => wn (hK6 _ _ ?_)
 refine wp_cond_split (F.t 17 rfl) (fun hc17 => ?_) (fun hc17 => ?_)
 ·have hk17_3 := hc17; try simp only [bL] at hc17
  refine sr fun _ hK9 => la F rfl (x_move (F.t 3 rfl)) fun a F => la F rfl (x_move (F.t 20 rfl)) fun a F => ?_
  refine split_bool F 21 rfl (fun hb21 => ?_) (fun hb21 => ?_)
  ·have hc21 := hb21; try simp only [bL] at hc21
   refine lgs F hb21 rfl (x_move (F.t 4 rfl)) fun a F => la F rfl (x_pickT (F.t 21 rfl) hb21 (F.t 22 rfl)) fun a F => la F rfl (x_move (F.t 23 rfl)) fun a F => ?_
   refine split_bool F 24 rfl (fun hb24 => ?_) (fun hb24 => ?_)
   ·have hc24 := hb24; try simp only [bL] at hc24
    refine lgs F hb24 rfl (x_move (F.t 5 rfl)) fun a F => la F rfl (x_pickT (F.t 24 rfl) hb24 (F.t 25 rfl)) fun a F => la F rfl (x_assign (F.t 26 rfl)) fun a F => wn (hK9 _ _ ?_)
    refine wp_ret ?_
    try simp only [Exit.then, Exit.inBlock]
    have hv : (decide (o.timer = zT)) = overO o := by rw [overO_ref hb]; unfold ovR; first | (simp [hc17, hc17, hc21, hc24]; done) | (simp [hc17, hc17, hc21, hc24]; omega)
    exact fin_ret F (res1 (v := .bool (decide (o.timer = zT))) F rfl rfl) ⟨by rw [hv], H.mods⟩
   have hc24 := hb24; try simp only [bL] at hc24
   refine los F hb24 rfl fun a F => la F rfl (x_pickF (F.t 24 rfl) hb24 rfl) fun a F => la F rfl (x_assign (F.t 26 rfl)) fun a F => wn (hK9 _ _ ?_)
   refine wp_ret ?_
   try simp only [Exit.then, Exit.inBlock]
   have hv : false = overO o := by rw [overO_ref hb]; unfold ovR; first | (simp [hc17, hc17, hc21, hc24]; done) | (simp [hc17, hc17, hc21, hc24]; omega)
   exact fin_ret F (res1 (v := .bool false) F rfl rfl) ⟨by rw [hv], H.mods⟩
  have hc21 := hb21; try simp only [bL] at hc21
  refine los F hb21 rfl fun a F => la F rfl (x_pickF (F.t 21 rfl) hb21 rfl) fun a F => la F rfl (x_move (F.t 23 rfl)) fun a F => lo F rfl fun a F => la F rfl (x_pickF (F.t 24 rfl) rfl rfl) fun a F => la F rfl (x_assign (F.t 26 rfl)) fun a F => wn (hK9 _ _ ?_)
  refine wp_ret ?_
  try simp only [Exit.then, Exit.inBlock]
  have hv : false = overO o := by rw [overO_ref hb]; unfold ovR; first | (simp [hc17, hc17, hc21]; done) | (simp [hc17, hc17, hc21]; omega)
  exact fin_ret F (res1 (v := .bool false) F rfl rfl) ⟨by rw [hv], H.mods⟩
 have hk17_4 := hc17; try simp only [bL] at hc17
 refine sr fun _ hK10 => la F rfl (x_eql (F.t 16 rfl) rfl) fun a F => la F rfl (x_assign (F.t 28 rfl)) fun a F => wn (hK10 _ _ ?_)
 refine wp_cond_split (F.t 27 rfl) (fun hc27 => ?_) (fun hc27 => ?_)
 ·have hk27_5 := hc27; try simp only [bL] at hc27
  refine sr fun _ hK11 => la F rfl (x_faddr Tryz.underlying93 rfl ty9 (by decide) (F.t 1 rfl) rfl) fun a F => la F rfl (x_load1 ty9 (F.t 29 rfl) (blk_cell (H.at 1 rfl) 1 rfl)) fun a F => la F rfl (x_eqn0 (xs := o.key) (F.t 30 rfl) (show _ = Value.string (strOfNums ([] : List Int)) by kernel_rfl)) fun a F => la F rfl (x_move (F.t 31 rfl)) fun a F => ?_
  refine split_bool F 32 rfl (fun hb32 => ?_) (fun hb32 => ?_)
  ·have hc32 := hb32; try simp only [bL] at hc32
   refine lgs F hb32 rfl (x_move (F.t 5 rfl)) fun a F => la F rfl (x_pickT (F.t 32 rfl) hb32 (F.t 33 rfl)) fun a F => la F rfl (x_move (F.t 34 rfl)) fun a F => ?_
   refine split_bool F 35 rfl (fun hb35 => ?_) (fun hb35 => ?_)
   ·have hc35 := hb35; try simp only [bL] at hc35
    refine lgs F hb35 rfl (x_faddr Tryz.underlying93 rfl ty91 (by decide) (F.t 1 rfl) rfl) fun a F => lgs F hb35 rfl (x_loadn (cs := #[.int .i64 o.step.1, .string (strOfNums o.step.2.1), .string (strOfNums o.step.2.2.1), .int .i64 o.step.2.2.2]) ty91 (F.t 36 rfl) rfl (blk_sub (H.at 1 rfl) 2 4 rfl)) fun a F => ?_
    refine lpo ((wo F rfl).trans (by rw [hb35]; rfl)) ?_
    refine w_call F (x_enter Tryz.func101 (by kernel_rfl) rfl (by simp only [bM, F.t 37 rfl] <;> rfl)) (rright_calls _ o.step) rfl rfl ?_
    rintro _ w ⟨rfl, hm_⟩; refine ⟨_, rfl, ?_⟩; clear F; intro a F; have H := H.same hm_
    refine la F rfl (x_pickT (F.t 35 rfl) hb35 (F.t 38 rfl)) fun a F => la F rfl (x_assign (F.t 39 rfl)) fun a F => wn (hK11 _ _ ?_)
    refine wp_ret ?_
    try simp only [Exit.then, Exit.inBlock]
    have hv : (rightS o.step) = overO o := by rw [overO_ref hb]; unfold ovR; first | (simp [hc17, hc17, hc27, hc32, hc35]; done) | (simp [hc17, hc17, hc27, hc32, hc35]; omega)
    exact fin_ret F (res1 (v := .bool (rightS o.step)) F rfl rfl) ⟨by rw [hv], H.mods⟩
   have hc35 := hb35; try simp only [bL] at hc35
   refine los F hb35 rfl fun a F => los F hb35 rfl fun a F => los F hb35 rfl fun a F => la F rfl (x_pickF (F.t 35 rfl) hb35 rfl) fun a F => la F rfl (x_assign (F.t 39 rfl)) fun a F => wn (hK11 _ _ ?_)
   refine wp_ret ?_
   try simp only [Exit.then, Exit.inBlock]
   have hv : false = overO o := by rw [overO_ref hb]; unfold ovR; first | (simp [hc17, hc17, hc27, hc32, hc35]; done) | (simp [hc17, hc17, hc27, hc32, hc35]; omega)
   exact fin_ret F (res1 (v := .bool false) F rfl rfl) ⟨by rw [hv], H.mods⟩
  have hc32 := hb32; try simp only [bL] at hc32
  refine los F hb32 rfl fun a F => la F rfl (x_pickF (F.t 32 rfl) hb32 rfl) fun a F => la F rfl (x_move (F.t 34 rfl)) fun a F => lo F rfl fun a F => lo F rfl fun a F => lo F rfl fun a F => la F rfl (x_pickF (F.t 35 rfl) rfl rfl) fun a F => la F rfl (x_assign (F.t 39 rfl)) fun a F => ?_
  refine wn (hK11 _ _ ?_)
  refine wp_ret ?_
  try simp only [Exit.then, Exit.inBlock]
  have hv : false = overO o := by rw [overO_ref hb]; unfold ovR; first | (simp [hc17, hc17, hc27, hc32]; done) | (simp [hc17, hc17, hc27, hc32]; omega)
  exact fin_ret F (res1 (v := .bool false) F rfl rfl) ⟨by rw [hv], H.mods⟩
 have hk27_6 := hc27; try simp only [bL] at hc27
 refine sr fun _ hK12 => la F rfl (x_eql (F.t 16 rfl) rfl) fun a F => la F rfl (x_assign (F.t 41 rfl)) fun a F => wn (hK12 _ _ ?_)
 refine wp_cond_split (F.t 40 rfl) (fun hc40 => ?_) (fun hc40 => ?_)
 ·have hk40_7 := hc40; try simp only [bL] at hc40
  refine sr fun _ hK13 => la F rfl (x_faddr Tryz.underlying93 rfl ty64 (by decide) (F.t 1 rfl) rfl) fun a F => la F rfl (x_loadn (cs := #[.string (strOfNums o.timer.name), .int .i64 o.timer.ver, .int .u64 o.timer.tick, .int .u64 o.timer.every, .slice Ao0 o.timer.steps.length co0]) ty64 (F.t 42 rfl) rfl (blk_sub (H.at 1 rfl) 6 5 rfl)) fun a F => ?_
  refine lp rfl ?_
  refine w_alloc 6 F H rfl ty64 ?_
  clear F H; intro a w b6 F H
  refine lp rfl ?_
  refine w_storeA 6 H ty64 rfl (F.t 6 rfl) (F.t 43 rfl) rfl (by simp [Value.cells, Value.oneCell']) rfl ?_
  clear H; intro w H
  refine wn (hK13 _ _ (sr fun _ hK14 => la F rfl (x_faddr Tryz.underlying64 rfl ty3 (by decide) (F.t 6 rfl) rfl) fun a F => ?_))
  refine lp rfl ?_
  refine w_store 6 H ty3 rfl (F.t 44 rfl) rfl rfl (one1 rfl rfl) (by first | decide | exact Nat.le_of_ble_eq_true rfl) ?_
  clear H; intro w H
  refine wn (hK14 _ _ (sr fun _ hK15 => la F rfl (x_faddr Tryz.underlying93 rfl ty9 (by decide) (F.t 1 rfl) rfl) fun a F => la F rfl (x_load1 ty9 (F.t 45 rfl) (blk_cell (H.at 1 rfl) 1 rfl)) fun a F => la F rfl (x_eqn0 (xs := o.key) (F.t 46 rfl) (show _ = Value.string (strOfNums ([] : List Int)) by kernel_rfl)) fun a F => la F rfl (x_move (F.t 47 rfl)) fun a F => ?_))
  refine split_bool F 48 rfl (fun hb48 => ?_) (fun hb48 => ?_)
  ·have hc48 := hb48; try simp only [bL] at hc48
   refine lgs F hb48 rfl (x_move (F.t 4 rfl)) fun a F => la F rfl (x_pickT (F.t 48 rfl) hb48 (F.t 49 rfl)) fun a F => la F rfl (x_move (F.t 50 rfl)) fun a F => ?_
   refine split_bool F 51 rfl (fun hb51 => ?_) (fun hb51 => ?_)
   ·have hc51 := hb51; try simp only [bL] at hc51
    refine lgs F hb51 rfl (x_faddr Tryz.underlying93 rfl ty64 (by decide) (F.t 1 rfl) rfl) fun a F => lgs F hb51 rfl (x_faddr Tryz.underlying64 rfl ty3 (by decide) (F.t 52 rfl) rfl) fun a F => lgs F hb51 rfl (x_load1 ty3 (F.t 53 rfl) (blk_cell (H.at 1 rfl) 7 rfl)) fun a F => lgs F hb51 rfl (x_eql (F.t 54 rfl) rfl) fun a F => la F rfl (x_pickT (F.t 51 rfl) hb51 (F.t 55 rfl)) fun a F => la F rfl (x_move (F.t 56 rfl)) fun a F => ?_
    refine split_bool F 57 rfl (fun hb57 => ?_) (fun hb57 => ?_)
    ·have hc57 := hb57; try simp only [bL] at hc57
     refine lgs F hb57 rfl (x_loadn ty64 (F.t 6 rfl) rfl (blk_whole (H.at 6 rfl))) fun a F => ?_
     refine lpo ((wo F rfl).trans (by rw [hb57]; rfl)) ?_
     refine w_call F (x_enter Tryz.func87 (by kernel_rfl) rfl (by simp only [bM, F.t 58 rfl] <;> rfl)) (r10right_calls (t := verOne o.timer) _ ((H.rd 900 rfl)) (verOne_B hb.timer)) rfl rfl ?_
     rintro _ w ⟨rfl, hm_⟩; refine ⟨_, rfl, ?_⟩; clear F; intro a F; have H := H.same hm_
     refine la F rfl (x_pickT (F.t 57 rfl) hb57 (F.t 59 rfl)) fun a F => la F rfl (x_assign (F.t 60 rfl)) fun a F => wn (hK15 _ _ ?_)
     refine wp_ret ?_
     try simp only [Exit.then, Exit.inBlock]
     have hv : (rightT (verOne o.timer)) = overO o := by rw [overO_ref hb]; unfold ovR; first | (simp [hc17, hc17, hc27, hc40, hc48, hc51, hc57]; done) | (simp [hc17, hc17, hc27, hc40, hc48, hc51, hc57]; omega)
     exact fin_ret F (res1 (v := .bool (rightT (verOne o.timer))) F rfl rfl) ⟨by rw [hv], H.mods⟩
    have hc57 := hb57; try simp only [bL] at hc57
    refine los F hb57 rfl fun a F => los F hb57 rfl fun a F => la F rfl (x_pickF (F.t 57 rfl) hb57 rfl) fun a F => la F rfl (x_assign (F.t 60 rfl)) fun a F => wn (hK15 _ _ ?_)
    refine wp_ret ?_
    try simp only [Exit.then, Exit.inBlock]
    have hv : false = overO o := by rw [overO_ref hb]; unfold ovR; first | (simp [hc17, hc17, hc27, hc40, hc48, hc51, hc57]; done) | (simp [hc17, hc17, hc27, hc40, hc48, hc51, hc57]; omega)
    exact fin_ret F (res1 (v := .bool false) F rfl rfl) ⟨by rw [hv], H.mods⟩
   have hc51 := hb51; try simp only [bL] at hc51
   refine los F hb51 rfl fun a F => los F hb51 rfl fun a F => los F hb51 rfl fun a F => los F hb51 rfl fun a F => la F rfl (x_pickF (F.t 51 rfl) hb51 rfl) fun a F => la F rfl (x_move (F.t 56 rfl)) fun a F => lo F rfl fun a F => lo F rfl fun a F => ?_
   refine la F rfl (x_pickF (F.t 57 rfl) rfl rfl) fun a F => la F rfl (x_assign (F.t 60 rfl)) fun a F => wn (hK15 _ _ ?_)
   refine wp_ret ?_
   try simp only [Exit.then, Exit.inBlock]
   have hv : false = overO o := by rw [overO_ref hb]; unfold ovR; first | (simp [hc17, hc17, hc27, hc40, hc48, hc51]; done) | (simp [hc17, hc17, hc27, hc40, hc48, hc51]; omega)
   exact fin_ret F (res1 (v := .bool false) F rfl rfl) ⟨by rw [hv], H.mods⟩
  have hc48 := hb48; try simp only [bL] at hc48
  refine los F hb48 rfl fun a F => la F rfl (x_pickF (F.t 48 rfl) hb48 rfl) fun a F => la F rfl (x_move (F.t 50 rfl)) fun a F => lo F rfl fun a F => lo F rfl fun a F => lo F rfl fun a F => lo F rfl fun a F => la F rfl (x_pickF (F.t 51 rfl) rfl rfl) fun a F => ?_
  refine la F rfl (x_move (F.t 56 rfl)) fun a F => lo F rfl fun a F => lo F rfl fun a F => la F rfl (x_pickF (F.t 57 rfl) rfl rfl) fun a F => la F rfl (x_assign (F.t 60 rfl)) fun a F => wn (hK15 _ _ ?_)
  refine wp_ret ?_
  try simp only [Exit.then, Exit.inBlock]
  have hv : false = overO o := by rw [overO_ref hb]; unfold ovR; first | (simp [hc17, hc17, hc27, hc40, hc48]; done) | (simp [hc17, hc17, hc27, hc40, hc48]; omega)
  exact fin_ret F (res1 (v := .bool false) F rfl rfl) ⟨by rw [hv], H.mods⟩
 have hk40_8 := hc40; try simp only [bL] at hc40
 refine wp_skip (hK4 _ _ (sr fun khK16 hK16 => la F rfl (x_assign rfl) fun a F => wn (hK16 _ _ ?_)))
 refine wp_ret ?_
 try simp only [Exit.then, Exit.inBlock]
 have hv : false = overO o := by rw [overO_ref hb]; unfold ovR; first | (simp [hc17, hc17, hc27, hc40]; done) | (simp [hc17, hc17, hc27, hc40]; omega)
 exact fin_ret F (res1 (v := .bool false) F rfl rfl) ⟨by rw [hv], H.mods⟩
theorem r14lock_calls (w0 : World) {o : OpD} {oko0 : Nat → Prop} {Ao0 : Option Addr} {co0 : Nat} (hro0 : Rd StE w0 oko0 Ao0 o.timer.steps co0) (hb : OpB o) : Calls Tryz.prog 64 #[.agg #[.int .i64 o.kind, .string (strOfNums o.key), .int .i64 o.step.1, .string (strOfNums o.step.2.1), .string (strOfNums o.step.2.2.1), .int .i64 o.step.2.2.2, .string (strOfNums o.timer.name), .int .i64 o.timer.ver, .int .u64 o.timer.tick, .int .u64 o.timer.every, .slice Ao0 o.timer.steps.length co0]] w0 fun e w' => e = .returned (.tuple #[.string (strOfNums (lockT o)), .bool (lockW o)]) ∧ Mods (fun _ => False) w0 w' := by
 refine cow Tryz.func64 rfl Tryz.ntmps64 (Nat.le_of_ble_eq_true rfl) fun a F => ?_
 have H := Hp.nil (fun _ => False) w0
 have H := H.arg 900 hro0.all (fun _ h => ⟨h, fun h => h⟩)
 have hleo0 := hro0.le; unfold maxLen at hleo0
 refine sr fun _ hK1 => ?_
 refine lp rfl ?_
 refine w_box 1 F H rfl (F.t 0 rfl) ?_
 clear F H; intro a w b1 F H
 refine la F rfl (x_assign (show _ = Value.string (strOfNums ([] : List Int)) by kernel_rfl)) fun a F => la F rfl (x_assign rfl) fun a F => wn (hK1 _ _ (sr fun _ hK2 => la F rfl (x_loadn ty93 (F.t 1 rfl) rfl (blk_whole (H.at 1 rfl))) fun a F => ?_))
 refine lp rfl ?_
 refine w_call F (x_enter Tryz.func96 (by kernel_rfl) rfl (by simp only [bM, F.t 5 rfl] <;> rfl)) (r14right_calls (o := o) _ ((H.rd 900 rfl)) hb) rfl rfl ?_
 rintro _ w ⟨rfl, hm_⟩; refine ⟨_, rfl, ?_⟩; clear F; intro a F; have H := H.same hm_
 refine la F rfl (x_assign (F.t 6 rfl)) fun a F => wn (hK2 _ _ ?_)
 refine wp_seq_k fun _ hK3 => ?_
 refine sr fun _ hK4 => la F rfl (x_move (F.t 4 rfl)) fun a F => la F rfl (x_not (F.t 7 rfl)) fun a F => wn (hK4 _ _ ?_)
 refine wp_cond_split (F.t 8 rfl) (fun hc8 => ?_) (fun hc8 => ?_)
 ·have hk8_1 := hc8; try simp only [bL] at hc8
  refine sr fun _ hK5 => la F rfl (x_assign (show _ = Value.string (strOfNums ([] : List Int)) by kernel_rfl)) fun a F => la F rfl (x_assign rfl) fun a F => wn (hK5 _ _ ?_)
  refine wp_ret ?_
  try simp only [Exit.then, Exit.inBlock]
  have hv : ([] : List Int) = lockT o := by unfold lockT; simp [hc8]
  have hu : false = lockW o := by unfold lockW; simp [hc8]
  exact fin_ret F (res2 F rfl rfl rfl) ⟨by rw [← hv, ← hu] <;> rfl, H.mods⟩
 have hk8_2 := hc8; try simp only [bL] at hc8
 have ho : overO o = true := by simpa using hc8
 have hol := over_lens hb ho
 refine wp_skip (hK3 _ _ ?_)
 refine wp_seq_k fun _ hK6 => ?_
 refine sr fun _ hK7 => la F rfl (x_faddr Tryz.underlying93 rfl ty88 (by decide) (F.t 1 rfl) rfl) fun a F => la F rfl (x_load1 ty88 (F.t 9 rfl) (blk_cell (H.at 1 rfl) 0 rfl)) fun a F => wn (hK7 _ _ (wp_block (sr fun _ hK8 => la F rfl (x_eql (F.t 10 rfl) rfl) fun a F => la F rfl (x_assign (F.t 12 rfl)) fun a F => ?_)))
 refine wn (hK8 _ _ ?_)
 refine wp_cond_split (F.t 11 rfl) (fun hc11 => ?_) (fun hc11 => ?_)
 ·have hk11_3 := hc11; try simp only [bL] at hc11
  refine sr fun _ hK9 => la F rfl (x_faddr Tryz.underlying93 rfl ty9 (by decide) (F.t 1 rfl) rfl) fun a F => la F rfl (x_load1 ty9 (F.t 13 rfl) (blk_cell (H.at 1 rfl) 1 rfl)) fun a F => la F rfl (x_adds (xs := ([107] : List Int)) (ys := o.key) (show _ = Value.string (strOfNums ([107] : List Int)) by kernel_rfl) (F.t 14 rfl) (by simp only [lN]; omega)) fun a F => la F rfl (x_assign (F.t 15 rfl)) fun a F => la F rfl (x_assign rfl) fun a F => wn (hK9 _ _ ?_)
  refine wp_ret ?_
  try simp only [Exit.then, Exit.inBlock]
  have hv : (([107] : List Int) ++ o.key) = lockT o := by unfold lockT; simp [hc8, hc11]
  have hu : false = lockW o := by unfold lockW; simp [hc8, hc11]
  exact fin_ret F (res2 F rfl rfl rfl) ⟨by rw [← hv, ← hu] <;> rfl, H.mods⟩
 have hk11_4 := hc11; try simp only [bL] at hc11
 refine sr fun _ hK10 => la F rfl (x_eql (F.t 10 rfl) rfl) fun a F => la F rfl (x_assign (F.t 17 rfl)) fun a F => wn (hK10 _ _ ?_)
 refine wp_cond_split (F.t 16 rfl) (fun hc16 => ?_) (fun hc16 => ?_)
 ·have hk16_5 := hc16; try simp only [bL] at hc16
  refine sr fun _ hK11 => la F rfl (x_faddr Tryz.underlying93 rfl ty9 (by decide) (F.t 1 rfl) rfl) fun a F => la F rfl (x_load1 ty9 (F.t 18 rfl) (blk_cell (H.at 1 rfl) 1 rfl)) fun a F => la F rfl (x_adds (xs := ([116] : List Int)) (ys := o.key) (show _ = Value.string (strOfNums ([116] : List Int)) by kernel_rfl) (F.t 19 rfl) (by simp only [lN]; omega)) fun a F => la F rfl (x_assign (F.t 20 rfl)) fun a F => la F rfl (x_assign rfl) fun a F => wn (hK11 _ _ ?_)
  refine wp_ret ?_
  try simp only [Exit.then, Exit.inBlock]
  have hv : (([116] : List Int) ++ o.key) = lockT o := by unfold lockT; simp [hc8, hc11, hc16]
  have hu : false = lockW o := by unfold lockW; simp [hc8, hc11, hc16]
  exact fin_ret F (res2 F rfl rfl rfl) ⟨by rw [← hv, ← hu] <;> rfl, H.mods⟩
 have hk16_6 := hc16; try simp only [bL] at hc16
 refine sr fun _ hK12 => la F rfl (x_eql (F.t 10 rfl) rfl) fun a F => la F rfl (x_assign (F.t 22 rfl)) fun a F => wn (hK12 _ _ ?_)
 refine wp_cond_split (F.t 21 rfl) (fun hc21 => ?_) (fun hc21 => ?_)
 ·have hk21_7 := hc21; try simp only [bL] at hc21
  refine sr fun _ hK13 => la F rfl (x_faddr Tryz.underlying93 rfl ty64 (by decide) (F.t 1 rfl) rfl) fun a F => la F rfl (x_faddr Tryz.underlying64 rfl ty9 (by decide) (F.t 23 rfl) rfl) fun a F => la F rfl (x_load1 ty9 (F.t 24 rfl) (blk_cell (H.at 1 rfl) 6 rfl)) fun a F => la F rfl (x_adds (xs := ([116] : List Int)) (ys := o.timer.name) (show _ = Value.string (strOfNums ([116] : List Int)) by kernel_rfl) (F.t 25 rfl) (by simp only [lN]; omega)) fun a F => la F rfl (x_assign (F.t 26 rfl)) fun a F => la F rfl (x_assign rfl) fun a F => wn (hK13 _ _ ?_)
  refine wp_ret ?_
  try simp only [Exit.then, Exit.inBlock]
  have hv : (([116] : List Int) ++ o.timer.name) = lockT o := by unfold lockT; simp [hc8, hc11, hc16, hc21]
  have hu : true = lockW o := by unfold lockW; simp [hc8, hc11, hc16, hc21]
  exact fin_ret F (res2 F rfl rfl rfl) ⟨by rw [← hv, ← hu] <;> rfl, H.mods⟩
 have hk21_8 := hc21; try simp only [bL] at hc21
 refine wp_skip (hK6 _ _ ?_)
 refine wp_seq_k fun _ hK14 => ?_
 refine sr fun _ hK15 => la F rfl (x_faddr Tryz.underlying93 rfl ty91 (by decide) (F.t 1 rfl) rfl) fun a F => la F rfl (x_faddr Tryz.underlying91 rfl ty89 (by decide) (F.t 27 rfl) rfl) fun a F => la F rfl (x_load1 ty89 (F.t 28 rfl) (blk_cell (H.at 1 rfl) 2 rfl)) fun a F => la F rfl (x_eql (F.t 29 rfl) rfl) fun a F => wn (hK15 _ _ ?_)
 refine wp_cond_split (F.t 30 rfl) (fun hc30 => ?_) (fun hc30 => ?_)
 ·have hk30_9 := hc30; try simp only [bL] at hc30
  refine sr fun khK16 hK16 => la F rfl (x_faddr Tryz.underlying93 rfl ty91 (by decide) (F.t 1 rfl) rfl) fun a F => la F rfl (x_faddr Tryz.underlying91 rfl ty9 (by decide) (F.t 31 rfl) rfl) fun a F => la F rfl (x_load1 ty9 (F.t 32 rfl) (blk_cell (H.at 1 rfl) 3 rfl)) fun a F => la F rfl (x_adds (xs := ([116] : List Int)) (ys := o.step.2.1) (show _ = Value.string (strOfNums ([116] : List Int)) by kernel_rfl) (F.t 33 rfl) (by simp only [lN]; omega)) fun a F => la F rfl (x_assign (F.t 34 rfl)) fun a F => la F rfl (x_assign rfl) fun a F => wn (hK16 _ _ ?_)
  refine wp_ret ?_
  try simp only [Exit.then, Exit.inBlock]
  have hv : (([116] : List Int) ++ o.step.2.1) = lockT o := by unfold lockT; simp [hc8, hc11, hc16, hc21, hc30]
  have hu : true = lockW o := by unfold lockW; simp [hc8, hc11, hc16, hc21, hc30]
  exact fin_ret F (res2 F rfl rfl rfl) ⟨by rw [← hv, ← hu] <;> rfl, H.mods⟩
 have hk30_10 := hc30; try simp only [bL] at hc30
 refine wp_skip (hK14 _ _ (sr fun _ hK17 => la F rfl (x_faddr Tryz.underlying93 rfl ty91 (by decide) (F.t 1 rfl) rfl) fun a F => la F rfl (x_faddr Tryz.underlying91 rfl ty9 (by decide) (F.t 35 rfl) rfl) fun a F => la F rfl (x_load1 ty9 (F.t 36 rfl) (blk_cell (H.at 1 rfl) 3 rfl)) fun a F => la F rfl (x_adds (xs := ([107] : List Int)) (ys := o.step.2.1) (show _ = Value.string (strOfNums ([107] : List Int)) by kernel_rfl) (F.t 37 rfl) (by simp only [lN]; omega)) fun a F => la F rfl (x_assign (F.t 38 rfl)) fun a F => ?_))
 refine la F rfl (x_assign rfl) fun a F => wn (hK17 _ _ ?_)
 refine wp_ret ?_
 try simp only [Exit.then, Exit.inBlock]
 have hv : (([107] : List Int) ++ o.step.2.1) = lockT o := by unfold lockT; simp [hc8, hc11, hc16, hc21, hc30]
 have hu : true = lockW o := by unfold lockW; simp [hc8, hc11, hc16, hc21, hc30]
 exact fin_ret F (res2 F rfl rfl rfl) ⟨by rw [← hv, ← hu] <;> rfl, H.mods⟩
theorem r22right_calls (w0 : World) {r : SReqD} {okr0 : Nat → Prop} {Ar0 : Option Addr} {cr0 : Nat} (hrr0 : Rd OpdE w0 okr0 Ar0 r.ops cr0) (hb : SReqB r) : Calls Tryz.prog 26 #[.agg #[.string (strOfNums r.client), .int .i64 r.num, .slice Ar0 r.ops.length cr0]] w0 fun e w' => e = .returned (.bool (rightQ r)) ∧ Mods (fun _ => False) w0 w' := by
 refine cow Tryz.func26 rfl Tryz.ntmps26 (Nat.le_of_ble_eq_true rfl) fun a F => ?_
 have H := Hp.nil (fun _ => False) w0
 have H := H.arg 900 hrr0.all (fun _ h => ⟨h, fun h => h⟩)
 have hler0 := hrr0.le; unfold maxLen at hler0
 refine sr fun _ hK1 => ?_
 refine lp rfl ?_
 refine w_box 1 F H rfl (F.t 0 rfl) ?_
 clear F H; intro a w b1 F H
 refine la F rfl (x_assign rfl) fun a F => wn (hK1 _ _ ?_)
 refine wp_seq_k fun _ hK2 => ?_
 refine sr fun _ hK3 => la F rfl (x_faddr Tryz.underlying43 rfl ty9 (by decide) (F.t 1 rfl) rfl) fun a F => la F rfl (x_load1 ty9 (F.t 7 rfl) (blk_cell (H.at 1 rfl) 0 rfl)) fun a F => la F rfl (x_len_sn (xs := r.client) Tryz.underlying9 (F.t 8 rfl)) fun a F => la F rfl (x_lss (F.t 9 rfl) rfl) fun a F => la F rfl (x_move (F.t 10 rfl)) fun a F => ?_
 refine split_bool F 11 rfl (fun hb11 => ?_) (fun hb11 => ?_)
 ·have hc11 := hb11; try simp only [bL] at hc11
  refine los F hb11 rfl fun a F => los F hb11 rfl fun a F => los F hb11 rfl fun a F => los F hb11 rfl fun a F => la F rfl (x_pickT (F.t 11 rfl) hb11 rfl) fun a F => la F rfl (x_move (F.t 16 rfl)) fun a F => lo F rfl fun a F => lo F rfl fun a F => ?_
  refine lo F rfl fun a F => la F rfl (x_pickT (F.t 17 rfl) rfl rfl) fun a F => la F rfl (x_move (F.t 21 rfl)) fun a F => lo F rfl fun a F => lo F rfl fun a F => lo F rfl fun a F => la F rfl (x_pickT (F.t 22 rfl) rfl rfl) fun a F => la F rfl (x_move (F.t 26 rfl)) fun a F => ?_
  refine lo F rfl fun a F => lo F rfl fun a F => lo F rfl fun a F => lo F rfl fun a F => la F rfl (x_pickT (F.t 27 rfl) rfl rfl) fun a F => la F rfl (x_move (F.t 32 rfl)) fun a F => lo F rfl fun a F => lo F rfl fun a F => ?_
  refine lo F rfl fun a F => lo F rfl fun a F => la F rfl (x_pickT (F.t 33 rfl) rfl rfl) fun a F => wn (hK3 _ _ ?_)
  refine wp_cond_true (F.t 38 rfl) ?_
  refine sr fun _ hK4 => la F rfl (x_assign rfl) fun a F => wn (hK4 _ _ ?_)
  refine wp_ret ?_
  try simp only [Exit.then, Exit.inBlock]
  have hz : rightQ r = false := rightQ_not (by omega)
  exact fin_ret F (res1 (v := .bool false) F rfl rfl) ⟨by rw [hz], H.mods⟩
 have hc11 := hb11; try simp only [bL] at hc11
 refine lgs F hb11 rfl (x_faddr Tryz.underlying43 rfl ty9 (by decide) (F.t 1 rfl) rfl) fun a F => lgs F hb11 rfl (x_load1 ty9 (F.t 12 rfl) (blk_cell (H.at 1 rfl) 0 rfl)) fun a F => lgs F hb11 rfl (x_len_sn (xs := r.client) Tryz.underlying9 (F.t 13 rfl)) fun a F => lgs F hb11 rfl (x_gtr (F.t 14 rfl) rfl) fun a F => la F rfl (x_pickF (F.t 11 rfl) hb11 (F.t 15 rfl)) fun a F => la F rfl (x_move (F.t 16 rfl)) fun a F => ?_
 refine split_bool F 17 rfl (fun hb17 => ?_) (fun hb17 => ?_)
 ·have hc17 := hb17; try simp only [bL] at hc17
  refine los F hb17 rfl fun a F => los F hb17 rfl fun a F => los F hb17 rfl fun a F => la F rfl (x_pickT (F.t 17 rfl) hb17 rfl) fun a F => la F rfl (x_move (F.t 21 rfl)) fun a F => lo F rfl fun a F => lo F rfl fun a F => lo F rfl fun a F => ?_
  refine la F rfl (x_pickT (F.t 22 rfl) rfl rfl) fun a F => la F rfl (x_move (F.t 26 rfl)) fun a F => lo F rfl fun a F => lo F rfl fun a F => lo F rfl fun a F => lo F rfl fun a F => la F rfl (x_pickT (F.t 27 rfl) rfl rfl) fun a F => la F rfl (x_move (F.t 32 rfl)) fun a F => ?_
  refine lo F rfl fun a F => lo F rfl fun a F => lo F rfl fun a F => lo F rfl fun a F => la F rfl (x_pickT (F.t 33 rfl) rfl rfl) fun a F => wn (hK3 _ _ ?_)
  refine wp_cond_true (F.t 38 rfl) ?_
  refine sr fun _ hK5 => la F rfl (x_assign rfl) fun a F => wn (hK5 _ _ ?_)
  refine wp_ret ?_
  try simp only [Exit.then, Exit.inBlock]
  have hz : rightQ r = false := rightQ_not (by omega)
  exact fin_ret F (res1 (v := .bool false) F rfl rfl) ⟨by rw [hz], H.mods⟩
 have hc17 := hb17; try simp only [bL] at hc17
 refine lgs F hb17 rfl (x_faddr Tryz.underlying43 rfl ty3 (by decide) (F.t 1 rfl) rfl) fun a F => lgs F hb17 rfl (x_load1 ty3 (F.t 18 rfl) (blk_cell (H.at 1 rfl) 1 rfl)) fun a F => lgs F hb17 rfl (x_lss (F.t 19 rfl) rfl) fun a F => la F rfl (x_pickF (F.t 17 rfl) hb17 (F.t 20 rfl)) fun a F => la F rfl (x_move (F.t 21 rfl)) fun a F => ?_
 refine split_bool F 22 rfl (fun hb22 => ?_) (fun hb22 => ?_)
 ·have hc22 := hb22; try simp only [bL] at hc22
  refine los F hb22 rfl fun a F => los F hb22 rfl fun a F => los F hb22 rfl fun a F => la F rfl (x_pickT (F.t 22 rfl) hb22 rfl) fun a F => la F rfl (x_move (F.t 26 rfl)) fun a F => lo F rfl fun a F => lo F rfl fun a F => lo F rfl fun a F => ?_
  refine lo F rfl fun a F => la F rfl (x_pickT (F.t 27 rfl) rfl rfl) fun a F => la F rfl (x_move (F.t 32 rfl)) fun a F => lo F rfl fun a F => lo F rfl fun a F => lo F rfl fun a F => lo F rfl fun a F => la F rfl (x_pickT (F.t 33 rfl) rfl rfl) fun a F => ?_
  refine wn (hK3 _ _ ?_)
  refine wp_cond_true (F.t 38 rfl) ?_
  refine sr fun _ hK6 => la F rfl (x_assign rfl) fun a F => wn (hK6 _ _ ?_)
  refine wp_ret ?_
  try simp only [Exit.then, Exit.inBlock]
  have hz : rightQ r = false := rightQ_not (by omega)
  exact fin_ret F (res1 (v := .bool false) F rfl rfl) ⟨by rw [hz], H.mods⟩
 have hc22 := hb22; try simp only [bL] at hc22
 refine lgs F hb22 rfl (x_faddr Tryz.underlying43 rfl ty3 (by decide) (F.t 1 rfl) rfl) fun a F => lgs F hb22 rfl (x_load1 ty3 (F.t 23 rfl) (blk_cell (H.at 1 rfl) 1 rfl)) fun a F => lgs F hb22 rfl (x_gtr (F.t 24 rfl) rfl) fun a F => la F rfl (x_pickF (F.t 22 rfl) hb22 (F.t 25 rfl)) fun a F => la F rfl (x_move (F.t 26 rfl)) fun a F => ?_
 refine split_bool F 27 rfl (fun hb27 => ?_) (fun hb27 => ?_)
 ·have hc27 := hb27; try simp only [bL] at hc27
  refine los F hb27 rfl fun a F => los F hb27 rfl fun a F => los F hb27 rfl fun a F => los F hb27 rfl fun a F => la F rfl (x_pickT (F.t 27 rfl) hb27 rfl) fun a F => la F rfl (x_move (F.t 32 rfl)) fun a F => lo F rfl fun a F => lo F rfl fun a F => ?_
  refine lo F rfl fun a F => lo F rfl fun a F => la F rfl (x_pickT (F.t 33 rfl) rfl rfl) fun a F => wn (hK3 _ _ ?_)
  refine wp_cond_true (F.t 38 rfl) ?_
  refine sr fun _ hK7 => la F rfl (x_assign rfl) fun a F => wn (hK7 _ _ ?_)
  refine wp_ret ?_
  try simp only [Exit.then, Exit.inBlock]
  have hz : rightQ r = false := rightQ_not (by omega)
  exact fin_ret F (res1 (v := .bool false) F rfl rfl) ⟨by rw [hz], H.mods⟩
 have hc27 := hb27; try simp only [bL] at hc27
 refine lgs F hb27 rfl (x_faddr Tryz.underlying43 rfl ty37 (by decide) (F.t 1 rfl) rfl) fun a F => lgs F hb27 rfl (x_load1 ty37 (F.t 28 rfl) (blk_cell (H.at 1 rfl) 2 rfl)) fun a F => lgs F hb27 rfl (x_len_slice Tryz.underlying37 (F.t 29 rfl)) fun a F => lgs F hb27 rfl (x_lss (F.t 30 rfl) rfl) fun a F => la F rfl (x_pickF (F.t 27 rfl) hb27 (F.t 31 rfl)) fun a F => la F rfl (x_move (F.t 32 rfl)) fun a F => ?_
 refine split_bool F 33 rfl (fun hb33 => ?_) (fun hb33 => ?_)
 ·have hc33 := hb33; try simp only [bL] at hc33
  refine los F hb33 rfl fun a F => los F hb33 rfl fun a F => los F hb33 rfl fun a F => los F hb33 rfl fun a F => la F rfl (x_pickT (F.t 33 rfl) hb33 rfl) fun a F => wn (hK3 _ _ ?_)
  refine wp_cond_true (F.t 38 rfl) ?_
  refine sr fun _ hK8 => la F rfl (x_assign rfl) fun a F => wn (hK8 _ _ ?_)
  refine wp_ret ?_
  try simp only [Exit.then, Exit.inBlock]
  have hz : rightQ r = false := rightQ_not (by omega)
  exact fin_ret F (res1 (v := .bool false) F rfl rfl) ⟨by rw [hz], H.mods⟩
 have hc33 := hb33; try simp only [bL] at hc33
 refine lgs F hb33 rfl (x_faddr Tryz.underlying43 rfl ty37 (by decide) (F.t 1 rfl) rfl) fun a F => lgs F hb33 rfl (x_load1 ty37 (F.t 34 rfl) (blk_cell (H.at 1 rfl) 2 rfl)) fun a F => lgs F hb33 rfl (x_len_slice Tryz.underlying37 (F.t 35 rfl)) fun a F => lgs F hb33 rfl (x_gtr (F.t 36 rfl) rfl) fun a F => la F rfl (x_pickF (F.t 33 rfl) hb33 (F.t 37 rfl)) fun a F => wn (hK3 _ _ ?_)
 refine wp_cond_split (F.t 38 rfl) (fun hc38 => ?_) (fun hc38 => ?_)
 ·have hk38_1 := hc38; try simp only [bL] at hc38
  have hz : rightQ r = false := rightQ_not (by omega)
  refine sr fun _ hK9 => la F rfl (x_assign rfl) fun a F => wn (hK9 _ _ ?_)
  refine wp_ret ?_
  try simp only [Exit.then, Exit.inBlock]
  exact fin_ret F (res1 (v := .bool false) F rfl rfl) ⟨by rw [hz], H.mods⟩
 have hk38_2 := hc38; try simp only [bL] at hc38
 have hall := rightQ_all (r := r) (by omega) (by omega) (by omega) (by omega) (by omega) (by omega)
 refine wp_skip (hK2 _ _ ?_)
 refine wp_seq_k fun _ hK10 => ?_
 refine sr fun _ hK11 => la F rfl (x_assign rfl) fun a F => wn (hK11 _ _ (wp_block ?_))
 refine wp_loop_ghost (fun n_ a w => ∃ k : Nat, n_ = r.ops.length - k ∧ (k ≤ r.ops.length) ∧ ((r.ops.take k).any wrongO = false) ∧ Fr 88 a [(1, .pointer (some ⟨b1, 0, none⟩)), (3, .int .i64 (k : Int))] ∧ Hp (fun _ => False) w0 w [(900, .rd_ OpdE Ar0 r.ops cr0 (fun k => k < w0.heap.size)), (1, .blk b1 (.cells #[.string (strOfNums r.client), .int .i64 r.num, .slice Ar0 r.ops.length cr0] 43 (0, 0)))]) (r.ops.length) ?_ ?_
 ·exact ⟨0, rfl, by omega, rfl, ((F.bare.add F 3 rfl).add F 1 rfl), H.sub _ (sub_cons (sub_cons (sub_nil _) 1 rfl) 900 rfl)⟩
 rintro _ a w ⟨k, rfl, hq0_0, hq0_1, F, H⟩
 refine wp_seq_k fun _ hK12 => ?_
 refine sr fun _ hK13 => la F rfl (x_move (F.t 3 rfl)) fun a F => la F rfl (x_faddr Tryz.underlying43 rfl ty37 (by decide) (F.t 1 rfl) rfl) fun a F => la F rfl (x_load1 ty37 (F.t 40 rfl) (blk_cell (H.at 1 rfl) 2 rfl)) fun a F => la F rfl (x_len_slice Tryz.underlying37 (F.t 41 rfl)) fun a F => la F rfl (x_lss (F.t 39 rfl) (F.t 42 rfl)) fun a F => wn (hK13 _ _ ?_)
 refine wp_cond_split (F.t 43 rfl) (fun hc43 => ?_) (fun hc43 => ?_)
 ·have hk43_3 := hc43; try simp only [bL] at hc43
  refine wp_skip (hK12 _ _ ?_)
  refine wp_seq_k fun _ hK14 => ?_
  refine wp_block (sr fun _ hK15 => ?_)
  obtain ⟨fA1, fc1, hfr1, hf1_0, hf1_1, hf1_2, hf1_3, hf1_4, hf1_5, hf1_6, hf1_7, hf1_8, hf1_9, hf1_10, hfw1⟩ := rd_opd ((H.rd 900 rfl)) (gopd_some (xs := r.ops) (i := (k : Int)) (by omega) (by omega))
  have H := H.subrd 900 rfl 1010 hfr1 (fun _ h => h)
  have H := H.subcels 900 rfl 1499 hfw1 (Rd.inok ((H.rd 900 rfl)) (by omega) _)
  have H := H.subcel 900 rfl 1500 hf1_0 (Rd.inok ((H.rd 900 rfl)) (by omega) _)
  have H := H.subcel 900 rfl 1501 hf1_1 (Rd.inok ((H.rd 900 rfl)) (by omega) _)
  have H := H.subcel 900 rfl 1502 hf1_2 (Rd.inok ((H.rd 900 rfl)) (by omega) _)
  have H := H.subcel 900 rfl 1503 hf1_3 (Rd.inok ((H.rd 900 rfl)) (by omega) _)
  have H := H.subcel 900 rfl 1504 hf1_4 (Rd.inok ((H.rd 900 rfl)) (by omega) _)
  have H := H.subcel 900 rfl 1505 hf1_5 (Rd.inok ((H.rd 900 rfl)) (by omega) _)
  have H := H.subcel 900 rfl 1506 hf1_6 (Rd.inok ((H.rd 900 rfl)) (by omega) _)
  have H := H.subcel 900 rfl 1507 hf1_7 (Rd.inok ((H.rd 900 rfl)) (by omega) _)
  have H := H.subcel 900 rfl 1508 hf1_8 (Rd.inok ((H.rd 900 rfl)) (by omega) _)
  have H := H.subcel 900 rfl 1509 hf1_9 (Rd.inok ((H.rd 900 rfl)) (by omega) _)
  have H := H.subcel 900 rfl 1510 hf1_10 (Rd.inok ((H.rd 900 rfl)) (by omega) _)
  refine la F rfl (x_faddr Tryz.underlying43 rfl ty37 (by decide) (F.t 1 rfl) rfl) fun a F => la F rfl (x_load1 ty37 (F.t 47 rfl) (blk_cell (H.at 1 rfl) 2 rfl)) fun a F => la F rfl (x_move (F.t 3 rfl)) fun a F => la F rfl (x_iaddr_A Tryz.underlying37 ty93 ((H.rd 900 rfl)) (F.t 48 rfl) (F.t 49 rfl) (by omega) (by omega) _) fun a F => la F rfl (x_loadn ty93 (F.t 50 rfl) rfl (H.holds 1499 _ rfl)) fun a F => ?_
  refine lp rfl ?_
  refine w_call F (x_enter Tryz.func64 (by kernel_rfl) rfl (by simp only [bM, F.t 51 rfl] <;> rfl)) (r14lock_calls (o := (gopd r.ops (k : Int))) _ ((H.rd 1010 rfl)) (hb.ops _ (gopd_mem (xs := r.ops) (j := k) (by omega)))) rfl rfl ?_
  rintro _ w ⟨rfl, hm_⟩; refine ⟨_, rfl, ?_⟩; clear F; intro a F; have H := H.same hm_
  refine la F rfl (x_move (F.t 52 rfl)) fun a F => la F rfl (x_extract (F.t 46 rfl) rfl) fun a F => la F rfl (x_extract (F.t 46 rfl) rfl) fun a F => la F rfl (x_assign (F.t 53 rfl)) fun a F => la F rfl (x_assign (F.t 54 rfl)) fun a F => wn (hK15 _ _ ?_)
  refine wp_seq_k fun khK16 hK16 => ?_
  refine sr fun _ hK17 => la F rfl (x_move (F.t 4 rfl)) fun a F => la F rfl (x_len_sn (xs := (lockT (gopd r.ops (k : Int)))) Tryz.underlying9 (F.t 55 rfl)) fun a F => la F rfl (x_lss (F.t 56 rfl) rfl) fun a F => la F rfl (x_move (F.t 57 rfl)) fun a F => ?_
  refine split_bool F 58 rfl (fun hb58 => ?_) (fun hb58 => ?_)
  ·have hc58 := hb58; try simp only [bL] at hc58
   have hz := rightQ_bad (gopd_mem (xs := r.ops) (j := k) (by omega)) (wrongO_short (hb.ops _ (gopd_mem (xs := r.ops) (j := k) (by omega))) (by omega))
   refine los F hb58 rfl fun a F => los F hb58 rfl fun a F => los F hb58 rfl fun a F => la F rfl (x_pickT (F.t 58 rfl) hb58 rfl) fun a F => wn (hK17 _ _ ?_)
   refine wp_cond_true (F.t 62 rfl) ?_
   refine sr fun _ hK18 => la F rfl (x_assign rfl) fun a F => wn (hK18 _ _ ?_)
   refine wp_ret ?_
   try simp only [Exit.then, Exit.inBlock]
   exact fin_ret F (res1 (v := .bool false) F rfl rfl) ⟨by rw [hz], H.mods⟩
  have hc58 := hb58; try simp only [bL] at hc58
  have hll := lockT_byte (hb.ops _ (gopd_mem (xs := r.ops) (j := k) (by omega)))
  refine lgs F hb58 rfl (x_move (F.t 4 rfl)) fun a F => lgs F hb58 rfl (x_idxS (xs := (lockT (gopd r.ops (k : Int)))) Tryz.underlying9 (F.t 59 rfl) rfl (by assumption) (by omega) (by omega)) fun a F => lgs F hb58 rfl (x_eql (F.t 60 rfl) rfl) fun a F => la F rfl (x_pickF (F.t 58 rfl) hb58 (F.t 61 rfl)) fun a F => wn (hK17 _ _ ?_)
  refine wp_cond_split (F.t 62 rfl) (fun hc62 => ?_) (fun hc62 => ?_)
  ·have hk62_4 := hc62; try simp only [bL] at hc62
   have hz := rightQ_bad (gopd_mem (xs := r.ops) (j := k) (by omega)) (wrongO_name (by omega) (by omega))
   refine sr fun _ hK19 => la F rfl (x_assign rfl) fun a F => wn (hK19 _ _ ?_)
   refine wp_ret ?_
   try simp only [Exit.then, Exit.inBlock]
   exact fin_ret F (res1 (v := .bool false) F rfl rfl) ⟨by rw [hz], H.mods⟩
  have hk62_5 := hc62; try simp only [bL] at hc62
  have ho : overO (gopd r.ops (k : Int)) = true := over_of (by omega)
  have hks := keys_len (hb.ops _ (gopd_mem (xs := r.ops) (j := k) (by omega))) ho
  refine wp_skip (hK16 _ _ (sr fun _ hK20 => la F rfl (x_assign rfl) fun a F => wn (hK20 _ _ (wp_block ?_))))
  refine wp_loop_ghost (fun n_ a w => ∃ j : Nat, n_ = (gopd r.ops (k : Int)).timer.steps.length - j ∧ (j ≤ (gopd r.ops (k : Int)).timer.steps.length) ∧ (((gopd r.ops (k : Int)).timer.steps.take j).any (fun s : StepD => oursI s.2.1) = false) ∧ Fr 88 a [(1, .pointer (some ⟨b1, 0, none⟩)), (3, .int .i64 (k : Int)), (6, .int .i64 (j : Int))] ∧ Hp (fun _ => False) w0 w [(900, .rd_ OpdE Ar0 r.ops cr0 (fun k => k < w0.heap.size)), (1, .blk b1 (.cells #[.string (strOfNums r.client), .int .i64 r.num, .slice Ar0 r.ops.length cr0] 43 (0, 0))), (1010, .rd_ StE (fA1) (gopd r.ops (k : Int)).timer.steps fc1 (fun k => k < w0.heap.size)), (1499, .cels (adr Ar0 (Int.toNat (k : Int) * 11)) #[.int .i64 (gopd r.ops (k : Int)).kind, .string (strOfNums (gopd r.ops (k : Int)).key), .int .i64 (gopd r.ops (k : Int)).step.1, .string (strOfNums (gopd r.ops (k : Int)).step.2.1), .string (strOfNums (gopd r.ops (k : Int)).step.2.2.1), .int .i64 (gopd r.ops (k : Int)).step.2.2.2, .string (strOfNums (gopd r.ops (k : Int)).timer.name), .int .i64 (gopd r.ops (k : Int)).timer.ver, .int .u64 (gopd r.ops (k : Int)).timer.tick, .int .u64 (gopd r.ops (k : Int)).timer.every, .slice fA1 (gopd r.ops (k : Int)).timer.steps.length fc1]), (1500, .cel (adr Ar0 (Int.toNat (k : Int) * 11)) (.int .i64 (gopd r.ops (k : Int)).kind)), (1501, .cel (adr Ar0 (Int.toNat (k : Int) * 11 + 1)) (.string (strOfNums (gopd r.ops (k : Int)).key))), (1502, .cel (adr Ar0 (Int.toNat (k : Int) * 11 + 2)) (.int .i64 (gopd r.ops (k : Int)).step.1)), (1503, .cel (adr Ar0 (Int.toNat (k : Int) * 11 + 3)) (.string (strOfNums (gopd r.ops (k : Int)).step.2.1))), (1504, .cel (adr Ar0 (Int.toNat (k : Int) * 11 + 4)) (.string (strOfNums (gopd r.ops (k : Int)).step.2.2.1))), (1505, .cel (adr Ar0 (Int.toNat (k : Int) * 11 + 5)) (.int .i64 (gopd r.ops (k : Int)).step.2.2.2)), (1506, .cel (adr Ar0 (Int.toNat (k : Int) * 11 + 6)) (.string (strOfNums (gopd r.ops (k : Int)).timer.name))), (1507, .cel (adr Ar0 (Int.toNat (k : Int) * 11 + 7)) (.int .i64 (gopd r.ops (k : Int)).timer.ver)), (1508, .cel (adr Ar0 (Int.toNat (k : Int) * 11 + 8)) (.int .u64 (gopd r.ops (k : Int)).timer.tick)), (1509, .cel (adr Ar0 (Int.toNat (k : Int) * 11 + 9)) (.int .u64 (gopd r.ops (k : Int)).timer.every)), (1510, .cel (adr Ar0 (Int.toNat (k : Int) * 11 + 10)) (.slice fA1 (gopd r.ops (k : Int)).timer.steps.length fc1))]) ((gopd r.ops (k : Int)).timer.steps.length) ?_ ?_
  ·exact ⟨0, rfl, by omega, rfl, (((F.bare.add F 6 rfl).add F 3 rfl).add F 1 rfl), H.sub _ (sub_cons (sub_cons (sub_cons (sub_cons (sub_cons (sub_cons (sub_cons (sub_cons (sub_cons (sub_cons (sub_cons (sub_cons (sub_cons (sub_cons (sub_cons (sub_nil _) 1510 rfl) 1509 rfl) 1508 rfl) 1507 rfl) 1506 rfl) 1505 rfl) 1504 rfl) 1503 rfl) 1502 rfl) 1501 rfl) 1500 rfl) 1499 rfl) 1010 rfl) 1 rfl) 900 rfl)⟩
  rintro _ a w ⟨j, rfl, hq2_0, hq2_1, F, H⟩
  refine wp_seq_k fun _ hK21 => ?_
  refine sr fun _ hK22 => la F rfl (x_move (F.t 6 rfl)) fun a F => la F rfl (x_faddr Tryz.underlying43 rfl ty37 (by decide) (F.t 1 rfl) rfl) fun a F => la F rfl (x_load1 ty37 (F.t 64 rfl) (blk_cell (H.at 1 rfl) 2 rfl)) fun a F => la F rfl (x_move (F.t 3 rfl)) fun a F => la F rfl (x_iaddr_A Tryz.underlying37 ty93 ((H.rd 900 rfl)) (F.t 65 rfl) (F.t 66 rfl) (by omega) (by omega) _) fun a F => la F rfl (x_faddrA ((H.rd 900 rfl)) (by omega) _ Tryz.underlying93 rfl ty64 (by decide) (F.t 67 rfl) rfl) fun a F => la F rfl (x_faddrA (o' := Int.toNat (k : Int) * 11 + 10) ((H.rd 900 rfl)) (by omega) _ Tryz.underlying64 rfl ty62 (by decide) (F.t 68 rfl) (Nat.add_assoc _ _ _)) fun a F => ?_
  refine la F rfl (x_load1 ty62 (F.t 69 rfl) (H.holds 1510 _ rfl)) fun a F => la F rfl (x_len_slice Tryz.underlying62 (F.t 70 rfl)) fun a F => la F rfl (x_lss (F.t 63 rfl) (F.t 71 rfl)) fun a F => wn (hK22 _ _ ?_)
  refine wp_cond_split (F.t 72 rfl) (fun hc72 => ?_) (fun hc72 => ?_)
  ·have hk72_6 := hc72; try simp only [bL] at hc72
   refine wp_skip (hK21 _ _ ?_)
   refine wp_seq_k fun _ hK23 => ?_
   refine wp_block (sr fun _ hK24 => ?_)
   have hlst := (H.rd 1010 rfl).le; unfold maxLen at hlst
   obtain ⟨hf2_0, hf2_1, hf2_2, hf2_3, hfw2⟩ := rd_st ((H.rd 1010 rfl)) (gst_some (xs := (gopd r.ops (k : Int)).timer.steps) (i := (j : Int)) (by omega) (by omega))
   have H := H.subcels 1010 rfl 2499 hfw2 (Rd.inok ((H.rd 1010 rfl)) (by omega) _)
   have H := H.subcel 1010 rfl 2500 hf2_0 (Rd.inok ((H.rd 1010 rfl)) (by omega) _)
   have H := H.subcel 1010 rfl 2501 hf2_1 (Rd.inok ((H.rd 1010 rfl)) (by omega) _)
   have H := H.subcel 1010 rfl 2502 hf2_2 (Rd.inok ((H.rd 1010 rfl)) (by omega) _)
   have H := H.subcel 1010 rfl 2503 hf2_3 (Rd.inok ((H.rd 1010 rfl)) (by omega) _)
   have hkl := hks _ (gst_mem (xs := (gopd r.ops (k : Int)).timer.steps) (j := j) (by omega))
   have hkb := ((hb.ops _ (gopd_mem (xs := r.ops) (j := k) (by omega))).timer.steps _ (gst_mem (xs := (gopd r.ops (k : Int)).timer.steps) (j := j) (by omega))).1
   refine la F rfl (x_faddr Tryz.underlying43 rfl ty37 (by decide) (F.t 1 rfl) rfl) fun a F => la F rfl (x_load1 ty37 (F.t 75 rfl) (blk_cell (H.at 1 rfl) 2 rfl)) fun a F => la F rfl (x_move (F.t 3 rfl)) fun a F => la F rfl (x_iaddr_A Tryz.underlying37 ty93 ((H.rd 900 rfl)) (F.t 76 rfl) (F.t 77 rfl) (by omega) (by omega) _) fun a F => la F rfl (x_faddrA ((H.rd 900 rfl)) (by omega) _ Tryz.underlying93 rfl ty64 (by decide) (F.t 78 rfl) rfl) fun a F => la F rfl (x_faddrA (o' := Int.toNat (k : Int) * 11 + 10) ((H.rd 900 rfl)) (by omega) _ Tryz.underlying64 rfl ty62 (by decide) (F.t 79 rfl) (Nat.add_assoc _ _ _)) fun a F => la F rfl (x_load1 ty62 (F.t 80 rfl) (H.holds 1510 _ rfl)) fun a F => la F rfl (x_move (F.t 6 rfl)) fun a F => ?_
   refine la F rfl (x_iaddr_A Tryz.underlying62 ty91 ((H.rd 1010 rfl)) (F.t 81 rfl) (F.t 82 rfl) (by omega) (by omega) _) fun a F => la F rfl (x_faddrA ((H.rd 1010 rfl)) (by omega) _ Tryz.underlying91 rfl ty9 (by decide) (F.t 83 rfl) rfl) fun a F => la F rfl (x_load1 ty9 (F.t 84 rfl) (H.holds 2501 _ rfl)) fun a F => la F rfl (x_idxS (xs := ((gst ((gopd r.ops (k : Int)).timer.steps) (j : Int)).2.1)) Tryz.underlying9 (F.t 85 rfl) rfl (by assumption) (by omega) (by omega)) fun a F => la F rfl (x_eql (F.t 86 rfl) rfl) fun a F => wn (hK24 _ _ ?_)
   refine wp_cond_split (F.t 87 rfl) (fun hc87 => ?_) (fun hc87 => ?_)
   ·have hk87_7 := hc87; try simp only [bL] at hc87
    have hz := rightQ_bad (gopd_mem (xs := r.ops) (j := k) (by omega)) (wrongO_step (gst_mem (xs := (gopd r.ops (k : Int)).timer.steps) (j := j) (by omega)) (hks _ (gst_mem (xs := (gopd r.ops (k : Int)).timer.steps) (j := j) (by omega))).1 (by omega))
    refine sr fun _ hK25 => la F rfl (x_assign rfl) fun a F => wn (hK25 _ _ ?_)
    refine wp_ret ?_
    try simp only [Exit.then, Exit.inBlock]
    exact fin_ret F (res1 (v := .bool false) F rfl rfl) ⟨by rw [hz], H.mods⟩
   have hk87_8 := hc87; try simp only [bL] at hc87
   refine wp_skip (hK23 _ _ ?_)
   refine wp_region_lit ?_
   refine la F rfl (x_move (F.t 6 rfl)) fun a F => la F rfl (x_add (F.t 73 rfl) rfl (w64 (by omega) (by omega))) fun a F => la F rfl (x_assign (F.t 74 rfl)) fun a F => ?_
   refine wpList_nil ?_
   exact ⟨_, by omega, ⟨j + 1, rfl, by omega, any_take (p := fun s : StepD => oursI s.2.1) (gst_some (xs := (gopd r.ops (k : Int)).timer.steps) (i := (j : Int)) (by omega) (by omega)) hq2_1 (by rw [ours_gi hkl.1]; exact decide_eq_false (by omega)), (((F.bare.add F 6 rfl).add F 3 rfl).add F 1 rfl), H.sub _ (sub_cons (sub_cons (sub_cons (sub_cons (sub_cons (sub_cons (sub_cons (sub_cons (sub_cons (sub_cons (sub_cons (sub_cons (sub_cons (sub_cons (sub_cons (sub_nil _) 1510 rfl) 1509 rfl) 1508 rfl) 1507 rfl) 1506 rfl) 1505 rfl) 1504 rfl) 1503 rfl) 1502 rfl) 1501 rfl) 1500 rfl) 1499 rfl) 1010 rfl) 1 rfl) 900 rfl)⟩⟩
  have hk72_9 := hc72; try simp only [bL] at hc72
  obtain rfl : j = (gopd r.ops (k : Int)).timer.steps.length := by omega
  rw [List.take_length] at hq2_1
  refine wp_exit ?_
  refine hK14 _ _ ?_
  refine wp_region_lit ?_
  refine la F rfl (x_move (F.t 3 rfl)) fun a F => la F rfl (x_add (F.t 44 rfl) rfl (w64 (by omega) (by omega))) fun a F => la F rfl (x_assign (F.t 45 rfl)) fun a F => ?_
  refine wpList_nil ?_
  exact ⟨_, by omega, ⟨k + 1, rfl, by omega, any_take (gopd_some (xs := r.ops) (i := (k : Int)) (by omega) (by omega)) hq0_1 (wrongO_right (by omega) (by omega) hq2_1), ((F.bare.add F 3 rfl).add F 1 rfl), H.sub _ (sub_cons (sub_cons (sub_nil _) 1 rfl) 900 rfl)⟩⟩
 have hk43_10 := hc43; try simp only [bL] at hc43
 obtain rfl : k = r.ops.length := by omega
 rw [List.take_length] at hq0_1
 have hz : rightQ r = true := by rw [hall, hq0_1]; rfl
 refine wp_exit ?_
 refine hK10 _ _ (sr fun _ hK26 => la F rfl (x_assign rfl) fun a F => wn (hK26 _ _ ?_))
 refine wp_ret ?_
 try simp only [Exit.then, Exit.inBlock]
 exact fin_ret F (res1 (v := .bool true) F rfl rfl) ⟨by rw [hz], H.mods⟩
end Go.Proofs.YtiiklnghnifmjaaGreatDoor.Act
