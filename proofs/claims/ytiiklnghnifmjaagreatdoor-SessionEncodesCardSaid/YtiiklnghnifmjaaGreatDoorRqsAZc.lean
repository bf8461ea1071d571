/- Requests alike, walked. -/
import Derived.Test.YtiiklnghnifmjaaGreatDoorRefAZc
import Derived.Test.YtiiklnghnifmjaaGreatDoorStoZc
import Derived.Test.YtiiklnghnifmjaaGreatDoorFlpDZc
import Derived.Test.YtiiklnghnifmjaaGreatDoorSesDZc
set_option linter.unusedVariables false
namespace Go.Proofs.YtiiklnghnifmjaaGreatDoor.Act
open Go.RowKit Go.Proofs.YtiiklnghnifmjaaGreatDoor.Sx Go.Proofs.YtiiklnghnifmjaaGreatDoor.Cod Go.Proofs.YtiiklnghnifmjaaGreatDoor.Num
theorem mark_B {r : SReqD} (hb : SReqB r) : OpB (markO r) := ⟨(by decide : Fits (1 : Int)), (byte_c [64] (by decide) : Byte _).app hb.client, zS_B, zT_B⟩
theorem put_B {r : SReqD} (hb : SReqB r) : OpB (putO r) := ⟨(by decide : Fits (2 : Int)), Byte.nil, ⟨(byte_c [64] (by decide) : Byte _).app hb.client, itoaI_byte _, (by decide : Fits (0 : Int))⟩, zT_B⟩
theorem wrap_mem {r : SReqD} (h : rightQ r = true) {o : OpD} (ho : o ∈ wrapL r) : o = markO r ∨ o ∈ r.ops ∨ o = putO r := by
  rw [← wrapL_yes h, List.mem_append, List.mem_append, List.mem_singleton, List.mem_singleton] at ho
  rcases ho with (h | h) | h
  · exact .inl h
  · exact .inr (.inl h)
  · exact .inr (.inr h)
theorem wrap_B {r : SReqD} (hb : SReqB r) (h : rightQ r = true) {o : OpD} (ho : o ∈ wrapL r) : OpB o := by
  rcases wrap_mem h ho with rfl | ho | rfl
  · exact mark_B hb
  · exact hb.ops o ho
  · exact put_B hb
end Go.Proofs.YtiiklnghnifmjaaGreatDoor.Act
set_option linter.unusedVariables false
set_option maxRecDepth 100000
set_option maxHeartbeats 1000000
set_option linter.unusedSimpArgs false
namespace Go.Proofs.YtiiklnghnifmjaaGreatDoor.Act
open Go.RowKit Go.Proofs.YtiiklnghnifmjaaGreatDoor.Sx Go.Proofs.YtiiklnghnifmjaaGreatDoor.Cod Go.Proofs.YtiiklnghnifmjaaGreatDoor.Num
theorem sameO_calls (w0 : World) {p q : OpD} {okp0 : Nat → Prop} {Ap0 : Option Addr} {cp0 : Nat} (hrp0 : Rd StE w0 okp0 Ap0 p.timer.steps cp0) {okq0 : Nat → Prop} {Aq0 : Option Addr} {cq0 : Nat} (hrq0 : Rd StE w0 okq0 Aq0 q.timer.steps cq0) (ha : OpB p) (hb : OpB q) : Calls Tryz.prog 58 #[.agg #[.int .i64 p.kind, .string (strOfNums p.key), .int .i64 p.step.1, .string (strOfNums p.step.2.1), .string (strOfNums p.step.2.2.1), .int .i64 p.step.2.2.2, .string (strOfNums p.timer.name), .int .i64 p.timer.ver, .int .u64 p.timer.tick, .int .u64 p.timer.every, .slice Ap0 p.timer.steps.length cp0], .agg #[.int .i64 q.kind, .string (strOfNums q.key), .int .i64 q.step.1, .string (strOfNums q.step.2.1), .string (strOfNums q.step.2.2.1), .int .i64 q.step.2.2.2, .string (strOfNums q.timer.name), .int .i64 q.timer.ver, .int .u64 q.timer.tick, .int .u64 q.timer.every, .slice Aq0 q.timer.steps.length cq0]] w0 fun e w' => e = .returned (.bool (decide (p = q))) ∧ Mods (fun _ => False) w0 w' := by
 refine cow Tryz.func58 rfl Tryz.ntmps58 (Nat.le_of_ble_eq_true rfl) fun a F => ?_
 have H := Hp.nil (fun _ => False) w0
 have H := H.arg 900 hrp0.all (fun _ h => ⟨h, fun h => h⟩)
 have hlep0 := hrp0.le; unfold maxLen at hlep0
 have H := H.arg 950 hrq0.all (fun _ h => ⟨h, fun h => h⟩)
 have hleq0 := hrq0.le; unfold maxLen at hleq0
 refine sr fun _ hK1 => ?_
 refine lp rfl ?_
 refine w_box 2 F H rfl (F.t 0 rfl) ?_
 clear F H; intro a w b2 F H
 refine lp rfl ?_
 refine w_box 3 F H rfl (F.t 1 rfl) ?_
 clear F H; intro a w b3 F H
 refine la F rfl (x_assign rfl) fun a F => wn (hK1 _ _ (sr fun _ hK2 => la F rfl (x_faddr Tryz.underlying93 rfl ty64 (by decide) (F.t 2 rfl) rfl) fun a F => la F rfl (x_loadn (cs := #[.string (strOfNums p.timer.name), .int .i64 p.timer.ver, .int .u64 p.timer.tick, .int .u64 p.timer.every, .slice Ap0 p.timer.steps.length cp0]) ty64 (F.t 6 rfl) rfl (blk_sub (H.at 2 rfl) 6 5 rfl)) fun a F => la F rfl (x_faddr Tryz.underlying93 rfl ty64 (by decide) (F.t 3 rfl) rfl) fun a F => la F rfl (x_loadn (cs := #[.string (strOfNums q.timer.name), .int .i64 q.timer.ver, .int .u64 q.timer.tick, .int .u64 q.timer.every, .slice Aq0 q.timer.steps.length cq0]) ty64 (F.t 8 rfl) rfl (blk_sub (H.at 3 rfl) 6 5 rfl)) fun a F => ?_))
 refine lp rfl ?_
 refine w_call F (x_enter Tryz.func89 (by kernel_rfl) rfl (by simp only [bM, F.t 7 rfl, F.t 9 rfl] <;> rfl)) (r10same_calls _ ((H.rd 900 rfl)) ((H.rd 950 rfl)) ha.timer hb.timer) rfl rfl ?_
 rintro _ w ⟨rfl, hm_⟩; refine ⟨_, rfl, ?_⟩; clear F; intro a F; have H := H.same hm_
 refine la F rfl (x_assign (F.t 10 rfl)) fun a F => wn (hK2 _ _ (sr fun _ hK3 => la F rfl (x_faddr Tryz.underlying93 rfl ty88 (by decide) (F.t 2 rfl) rfl) fun a F => la F rfl (x_load1 ty88 (F.t 11 rfl) (blk_cell (H.at 2 rfl) 0 rfl)) fun a F => la F rfl (x_faddr Tryz.underlying93 rfl ty88 (by decide) (F.t 3 rfl) rfl) fun a F => la F rfl (x_load1 ty88 (F.t 13 rfl) (blk_cell (H.at 3 rfl) 0 rfl)) fun a F => la F rfl (x_eql (F.t 12 rfl) (F.t 14 rfl)) fun a F => ?_))
 refine la F rfl (x_move (F.t 15 rfl)) fun a F => ?_
 refine split_bool F 16 rfl (fun hb16 => ?_) (fun hb16 => ?_)
 ·have hc16 := hb16; try simp only [bL] at hc16
  refine lgs F hb16 rfl (x_faddr Tryz.underlying93 rfl ty9 (by decide) (F.t 2 rfl) rfl) fun a F => lgs F hb16 rfl (x_load1 ty9 (F.t 17 rfl) (blk_cell (H.at 2 rfl) 1 rfl)) fun a F => lgs F hb16 rfl (x_faddr Tryz.underlying93 rfl ty9 (by decide) (F.t 3 rfl) rfl) fun a F => lgs F hb16 rfl (x_load1 ty9 (F.t 19 rfl) (blk_cell (H.at 3 rfl) 1 rfl)) fun a F => lgs F hb16 rfl (x_eqn (xs := p.key) (ys := q.key) (F.t 18 rfl) (F.t 20 rfl) ha.key hb.key) fun a F => la F rfl (x_pickT (F.t 16 rfl) hb16 (F.t 21 rfl)) fun a F => la F rfl (x_move (F.t 22 rfl)) fun a F => ?_
  refine split_bool F 23 rfl (fun hb23 => ?_) (fun hb23 => ?_)
  ·have hc23 := hb23; try simp only [bL] at hc23
   refine lgs F hb23 rfl (x_faddr Tryz.underlying93 rfl ty91 (by decide) (F.t 2 rfl) rfl) fun a F => lgs F hb23 rfl (x_loadn (cs := #[.int .i64 p.step.1, .string (strOfNums p.step.2.1), .string (strOfNums p.step.2.2.1), .int .i64 p.step.2.2.2]) ty91 (F.t 24 rfl) rfl (blk_sub (H.at 2 rfl) 2 4 rfl)) fun a F => lgs F hb23 rfl (x_faddr Tryz.underlying93 rfl ty91 (by decide) (F.t 3 rfl) rfl) fun a F => lgs F hb23 rfl (x_loadn (cs := #[.int .i64 q.step.1, .string (strOfNums q.step.2.1), .string (strOfNums q.step.2.2.1), .int .i64 q.step.2.2.2]) ty91 (F.t 26 rfl) rfl (blk_sub (H.at 3 rfl) 2 4 rfl)) fun a F => lgs F hb23 rfl (st_eqs (x := p.step) (y := q.step) ha.step.1 hb.step.1 ha.step.2.1 hb.step.2.1 (F.t 25 rfl) (F.t 27 rfl)) fun a F => la F rfl (x_pickT (F.t 23 rfl) hb23 (F.t 28 rfl)) fun a F => la F rfl (x_move (F.t 29 rfl)) fun a F => ?_
   refine split_bool F 30 rfl (fun hb30 => ?_) (fun hb30 => ?_)
   ·have hc30 := hb30; try simp only [bL] at hc30
    refine lgs F hb30 rfl (x_move (F.t 5 rfl)) fun a F => la F rfl (x_pickT (F.t 30 rfl) hb30 (F.t 31 rfl)) fun a F => la F rfl (x_assign (F.t 32 rfl)) fun a F => wn (hK3 _ _ ?_)
    refine wp_ret ?_
    try simp only [Exit.then, Exit.inBlock]
    have hv : (decide (p.timer = q.timer)) = decide (p = q) := by rw [Bool.eq_iff_iff]; simp only [decide_eq_true_iff, opd_same]; first | (simp [hc16, hc23, hc30]; done) | (simp [hc16, hc23, hc30]; omega)
    exact fin_ret F (res1 (v := .bool (decide (p.timer = q.timer))) F rfl rfl) ⟨by rw [hv], H.mods⟩
   have hc30 := hb30; try simp only [bL] at hc30
   refine los F hb30 rfl fun a F => la F rfl (x_pickF (F.t 30 rfl) hb30 rfl) fun a F => la F rfl (x_assign (F.t 32 rfl)) fun a F => wn (hK3 _ _ ?_)
   refine wp_ret ?_
   try simp only [Exit.then, Exit.inBlock]
   have hv : false = decide (p = q) := by rw [Bool.eq_iff_iff]; simp only [decide_eq_true_iff, opd_same]; first | (simp [hc16, hc23, hc30]; done) | (simp [hc16, hc23, hc30]; omega)
   exact fin_ret F (res1 (v := .bool false) F rfl rfl) ⟨by rw [hv], H.mods⟩
  have hc23 := hb23; try simp only [bL] at hc23
  refine los F hb23 rfl fun a F => los F hb23 rfl fun a F => los F hb23 rfl fun a F => los F hb23 rfl fun a F => los F hb23 rfl fun a F => la F rfl (x_pickF (F.t 23 rfl) hb23 rfl) fun a F => la F rfl (x_move (F.t 29 rfl)) fun a F => lo F rfl fun a F => ?_
  refine la F rfl (x_pickF (F.t 30 rfl) rfl rfl) fun a F => la F rfl (x_assign (F.t 32 rfl)) fun a F => wn (hK3 _ _ ?_)
  refine wp_ret ?_
  try simp only [Exit.then, Exit.inBlock]
  have hv : false = decide (p = q) := by rw [Bool.eq_iff_iff]; simp only [decide_eq_true_iff, opd_same]; first | (simp [hc16, hc23]; done) | (simp [hc16, hc23]; omega)
  exact fin_ret F (res1 (v := .bool false) F rfl rfl) ⟨by rw [hv], H.mods⟩
 have hc16 := hb16; try simp only [bL] at hc16
 refine los F hb16 rfl fun a F => los F hb16 rfl fun a F => los F hb16 rfl fun a F => los F hb16 rfl fun a F => los F hb16 rfl fun a F => la F rfl (x_pickF (F.t 16 rfl) hb16 rfl) fun a F => la F rfl (x_move (F.t 22 rfl)) fun a F => lo F rfl fun a F => ?_
 refine lo F rfl fun a F => lo F rfl fun a F => lo F rfl fun a F => lo F rfl fun a F => la F rfl (x_pickF (F.t 23 rfl) rfl rfl) fun a F => la F rfl (x_move (F.t 29 rfl)) fun a F => lo F rfl fun a F => la F rfl (x_pickF (F.t 30 rfl) rfl rfl) fun a F => ?_
 refine la F rfl (x_assign (F.t 32 rfl)) fun a F => wn (hK3 _ _ ?_)
 refine wp_ret ?_
 try simp only [Exit.then, Exit.inBlock]
 have hv : false = decide (p = q) := by rw [Bool.eq_iff_iff]; simp only [decide_eq_true_iff, opd_same]; first | (simp [hc16]; done) | (simp [hc16]; omega)
 exact fin_ret F (res1 (v := .bool false) F rfl rfl) ⟨by rw [hv], H.mods⟩
theorem sameOs_calls (w0 : World) {ok1 : Nat → Prop} {A1 : Option Addr} {xs1 : List OpD} {c1 : Nat} (hr1 : Rd OpdE w0 ok1 A1 xs1 c1) {ok2 : Nat → Prop} {A2 : Option Addr} {xs2 : List OpD} {c2 : Nat} (hr2 : Rd OpdE w0 ok2 A2 xs2 c2) (hb1 : ∀ c ∈ xs1, OpB c) (hb2 : ∀ c ∈ xs2, OpB c) : Calls Tryz.prog 22 #[.slice A1 xs1.length c1, .slice A2 xs2.length c2] w0 fun e w' => e = .returned (.bool (decide (xs1 = xs2))) ∧ Mods (fun _ => False) w0 w' := by
 refine cow Tryz.func22 rfl Tryz.ntmps22 (Nat.le_of_ble_eq_true rfl) fun a F => ?_
 have H := Hp.nil (fun _ => False) w0
 have H := H.arg 901 hr1.all (fun _ h => ⟨h, fun h => h⟩)
 have hle901 := hr1.le; unfold maxLen at hle901
 have H := H.arg 902 hr2.all (fun _ h => ⟨h, fun h => h⟩)
 have hle902 := hr2.le; unfold maxLen at hle902
 refine sr fun _ hK1 => la F rfl (x_assign rfl) fun a F => wn (hK1 _ _ ?_)
 refine wp_seq_k fun _ hK2 => ?_
 refine sr fun _ hK3 => la F rfl (x_move (F.t 0 rfl)) fun a F => la F rfl (x_len_slice Tryz.underlying37 (F.t 7 rfl)) fun a F => la F rfl (x_move (F.t 1 rfl)) fun a F => la F rfl (x_len_slice Tryz.underlying37 (F.t 9 rfl)) fun a F => la F rfl (x_neq (F.t 8 rfl) (F.t 10 rfl)) fun a F => wn (hK3 _ _ ?_)
 refine wp_cond_split (F.t 11 rfl) (fun hc11 => ?_) (fun hc11 => ?_)
 ·have hk11_1 := hc11; try simp only [bL] at hc11
  have hz := same_len (xs := xs1) (ys := xs2) (by omega)
  refine sr fun _ hK4 => la F rfl (x_assign rfl) fun a F => wn (hK4 _ _ ?_)
  refine wp_ret ?_
  try simp only [Exit.then, Exit.inBlock]
  exact fin_ret F (res1 F rfl rfl) ⟨by rw [hz] <;> rfl, H.mods⟩
 have hk11_2 := hc11; try simp only [bL] at hc11
 have hll : (xs1.length : Int) = xs2.length := by omega
 refine wp_skip (hK2 _ _ ?_)
 refine wp_seq_k fun _ hK5 => ?_
 refine sr fun _ hK6 => la F rfl (x_assign rfl) fun a F => wn (hK6 _ _ (wp_block ?_))
 refine wp_loop_ghost (fun n_ a w => ∃ k : Nat, n_ = xs1.length - k ∧ (k ≤ xs1.length) ∧ (xs1.take k = xs2.take k) ∧ Fr 29 a [(0, .slice A1 xs1.length c1), (1, .slice A2 xs2.length c2), (5, .int .i64 (k : Int))] ∧ Hp (fun _ => False) w0 w [(901, .rd_ OpdE A1 xs1 c1 (fun k => k < w0.heap.size)), (902, .rd_ OpdE A2 xs2 c2 (fun k => k < w0.heap.size))]) (xs1.length) ?_ ?_
 ·exact ⟨0, rfl, by omega, rfl, (((F.bare.add F 5 rfl).add F 1 rfl).add F 0 rfl), H.sub _ (sub_cons (sub_cons (sub_nil _) 902 rfl) 901 rfl)⟩
 rintro _ a w ⟨k, rfl, hq0_0, hq0_1, F, H⟩
 refine wp_seq_k fun _ hK7 => ?_
 refine sr fun _ hK8 => la F rfl (x_move (F.t 5 rfl)) fun a F => la F rfl (x_move (F.t 0 rfl)) fun a F => la F rfl (x_len_slice Tryz.underlying37 (F.t 13 rfl)) fun a F => la F rfl (x_lss (F.t 12 rfl) (F.t 14 rfl)) fun a F => wn (hK8 _ _ ?_)
 refine wp_cond_split (F.t 15 rfl) (fun hc15 => ?_) (fun hc15 => ?_)
 ·have hk15_3 := hc15; try simp only [bL] at hc15
  obtain ⟨fA1, fc1, hfr1, hf1_0, hf1_1, hf1_2, hf1_3, hf1_4, hf1_5, hf1_6, hf1_7, hf1_8, hf1_9, hf1_10, hfw1⟩ := rd_opd ((H.rd 901 rfl)) (gopd_some (xs := xs1) (i := (k : Int)) (by omega) (by omega))
  have H := H.subrd 901 rfl 1010 hfr1 (fun _ h => h)
  have H := H.subcels 901 rfl 1499 hfw1 (Rd.inok ((H.rd 901 rfl)) (by omega) _)
  have H := H.subcel 901 rfl 1500 hf1_0 (Rd.inok ((H.rd 901 rfl)) (by omega) _)
  have H := H.subcel 901 rfl 1501 hf1_1 (Rd.inok ((H.rd 901 rfl)) (by omega) _)
  have H := H.subcel 901 rfl 1502 hf1_2 (Rd.inok ((H.rd 901 rfl)) (by omega) _)
  have H := H.subcel 901 rfl 1503 hf1_3 (Rd.inok ((H.rd 901 rfl)) (by omega) _)
  have H := H.subcel 901 rfl 1504 hf1_4 (Rd.inok ((H.rd 901 rfl)) (by omega) _)
  have H := H.subcel 901 rfl 1505 hf1_5 (Rd.inok ((H.rd 901 rfl)) (by omega) _)
  have H := H.subcel 901 rfl 1506 hf1_6 (Rd.inok ((H.rd 901 rfl)) (by omega) _)
  have H := H.subcel 901 rfl 1507 hf1_7 (Rd.inok ((H.rd 901 rfl)) (by omega) _)
  have H := H.subcel 901 rfl 1508 hf1_8 (Rd.inok ((H.rd 901 rfl)) (by omega) _)
  have H := H.subcel 901 rfl 1509 hf1_9 (Rd.inok ((H.rd 901 rfl)) (by omega) _)
  have H := H.subcel 901 rfl 1510 hf1_10 (Rd.inok ((H.rd 901 rfl)) (by omega) _)
  obtain ⟨fA2, fc2, hfr2, hf2_0, hf2_1, hf2_2, hf2_3, hf2_4, hf2_5, hf2_6, hf2_7, hf2_8, hf2_9, hf2_10, hfw2⟩ := rd_opd ((H.rd 902 rfl)) (gopd_some (xs := xs2) (i := (k : Int)) (by omega) (by omega))
  have H := H.subrd 902 rfl 2010 hfr2 (fun _ h => h)
  have H := H.subcels 902 rfl 2499 hfw2 (Rd.inok ((H.rd 902 rfl)) (by omega) _)
  have H := H.subcel 902 rfl 2500 hf2_0 (Rd.inok ((H.rd 902 rfl)) (by omega) _)
  have H := H.subcel 902 rfl 2501 hf2_1 (Rd.inok ((H.rd 902 rfl)) (by omega) _)
  have H := H.subcel 902 rfl 2502 hf2_2 (Rd.inok ((H.rd 902 rfl)) (by omega) _)
  have H := H.subcel 902 rfl 2503 hf2_3 (Rd.inok ((H.rd 902 rfl)) (by omega) _)
  have H := H.subcel 902 rfl 2504 hf2_4 (Rd.inok ((H.rd 902 rfl)) (by omega) _)
  have H := H.subcel 902 rfl 2505 hf2_5 (Rd.inok ((H.rd 902 rfl)) (by omega) _)
  have H := H.subcel 902 rfl 2506 hf2_6 (Rd.inok ((H.rd 902 rfl)) (by omega) _)
  have H := H.subcel 902 rfl 2507 hf2_7 (Rd.inok ((H.rd 902 rfl)) (by omega) _)
  have H := H.subcel 902 rfl 2508 hf2_8 (Rd.inok ((H.rd 902 rfl)) (by omega) _)
  have H := H.subcel 902 rfl 2509 hf2_9 (Rd.inok ((H.rd 902 rfl)) (by omega) _)
  have H := H.subcel 902 rfl 2510 hf2_10 (Rd.inok ((H.rd 902 rfl)) (by omega) _)
  have hm1 := gopd_mem (xs := xs1) (j := k) (by omega)
  have hm2 := gopd_mem (xs := xs2) (j := k) (by omega)
  refine wp_skip (hK7 _ _ ?_)
  refine wp_seq_k fun _ hK9 => ?_
  refine wp_block ?_
  refine wp_seq_k fun _ hK10 => ?_
  refine r_start [(901, .rd_ OpdE A1 xs1 c1 (fun k => k < w0.heap.size)), (902, .rd_ OpdE A2 xs2 c2 (fun k => k < w0.heap.size)), (1010, .rd_ StE (fA1) (gopd xs1 (k : Int)).timer.steps fc1 (fun k => k < w0.heap.size)), (1499, .cels (adr A1 (Int.toNat (k : Int) * 11)) #[.int .i64 (gopd xs1 (k : Int)).kind, .string (strOfNums (gopd xs1 (k : Int)).key), .int .i64 (gopd xs1 (k : Int)).step.1, .string (strOfNums (gopd xs1 (k : Int)).step.2.1), .string (strOfNums (gopd xs1 (k : Int)).step.2.2.1), .int .i64 (gopd xs1 (k : Int)).step.2.2.2, .string (strOfNums (gopd xs1 (k : Int)).timer.name), .int .i64 (gopd xs1 (k : Int)).timer.ver, .int .u64 (gopd xs1 (k : Int)).timer.tick, .int .u64 (gopd xs1 (k : Int)).timer.every, .slice fA1 (gopd xs1 (k : Int)).timer.steps.length fc1]), (1500, .cel (adr A1 (Int.toNat (k : Int) * 11)) (.int .i64 (gopd xs1 (k : Int)).kind)), (1501, .cel (adr A1 (Int.toNat (k : Int) * 11 + 1)) (.string (strOfNums (gopd xs1 (k : Int)).key))), (1502, .cel (adr A1 (Int.toNat (k : Int) * 11 + 2)) (.int .i64 (gopd xs1 (k : Int)).step.1)), (1503, .cel (adr A1 (Int.toNat (k : Int) * 11 + 3)) (.string (strOfNums (gopd xs1 (k : Int)).step.2.1))), (1504, .cel (adr A1 (Int.toNat (k : Int) * 11 + 4)) (.string (strOfNums (gopd xs1 (k : Int)).step.2.2.1))), (1505, .cel (adr A1 (Int.toNat (k : Int) * 11 + 5)) (.int .i64 (gopd xs1 (k : Int)).step.2.2.2)), (1506, .cel (adr A1 (Int.toNat (k : Int) * 11 + 6)) (.string (strOfNums (gopd xs1 (k : Int)).timer.name))), (1507, .cel (adr A1 (Int.toNat (k : Int) * 11 + 7)) (.int .i64 (gopd xs1 (k : Int)).timer.ver)), (1508, .cel (adr A1 (Int.toNat (k : Int) * 11 + 8)) (.int .u64 (gopd xs1 (k : Int)).timer.tick)), (1509, .cel (adr A1 (Int.toNat (k : Int) * 11 + 9)) (.int .u64 (gopd xs1 (k : Int)).timer.every)), (1510, .cel (adr A1 (Int.toNat (k : Int) * 11 + 10)) (.slice fA1 (gopd xs1 (k : Int)).timer.steps.length fc1)), (2010, .rd_ StE (fA2) (gopd xs2 (k : Int)).timer.steps fc2 (fun k => k < w0.heap.size)), (2499, .cels (adr A2 (Int.toNat (k : Int) * 11)) #[.int .i64 (gopd xs2 (k : Int)).kind, .string (strOfNums (gopd xs2 (k : Int)).key), .int .i64 (gopd xs2 (k : Int)).step.1, .string (strOfNums (gopd xs2 (k : Int)).step.2.1), .string (strOfNums (gopd xs2 (k : Int)).step.2.2.1), .int .i64 (gopd xs2 (k : Int)).step.2.2.2, .string (strOfNums (gopd xs2 (k : Int)).timer.name), .int .i64 (gopd xs2 (k : Int)).timer.ver, .int .u64 (gopd xs2 (k : Int)).timer.tick, .int .u64 (gopd xs2 (k : Int)).timer.every, .slice fA2 (gopd xs2 (k : Int)).timer.steps.length fc2]), (2500, .cel (adr A2 (Int.toNat (k : Int) * 11)) (.int .i64 (gopd xs2 (k : Int)).kind)), (2501, .cel (adr A2 (Int.toNat (k : Int) * 11 + 1)) (.string (strOfNums (gopd xs2 (k : Int)).key))), (2502, .cel (adr A2 (Int.toNat (k : Int) * 11 + 2)) (.int .i64 (gopd xs2 (k : Int)).step.1)), (2503, .cel (adr A2 (Int.toNat (k : Int) * 11 + 3)) (.string (strOfNums (gopd xs2 (k : Int)).step.2.1))), (2504, .cel (adr A2 (Int.toNat (k : Int) * 11 + 4)) (.string (strOfNums (gopd xs2 (k : Int)).step.2.2.1))), (2505, .cel (adr A2 (Int.toNat (k : Int) * 11 + 5)) (.int .i64 (gopd xs2 (k : Int)).step.2.2.2)), (2506, .cel (adr A2 (Int.toNat (k : Int) * 11 + 6)) (.string (strOfNums (gopd xs2 (k : Int)).timer.name))), (2507, .cel (adr A2 (Int.toNat (k : Int) * 11 + 7)) (.int .i64 (gopd xs2 (k : Int)).timer.ver)), (2508, .cel (adr A2 (Int.toNat (k : Int) * 11 + 8)) (.int .u64 (gopd xs2 (k : Int)).timer.tick)), (2509, .cel (adr A2 (Int.toNat (k : Int) * 11 + 9)) (.int .u64 (gopd xs2 (k : Int)).timer.every)), (2510, .cel (adr A2 (Int.toNat (k : Int) * 11 + 10)) (.slice fA2 (gopd xs2 (k : Int)).timer.steps.length fc2))] (by kernel_rfl) H fun H => ?_
  have hS : SL [(901, .rd_ OpdE A1 xs1 c1 (fun k => k < w0.heap.size)), (902, .rd_ OpdE A2 xs2 c2 (fun k => k < w0.heap.size)), (1010, .rd_ StE (fA1) (gopd xs1 (k : Int)).timer.steps fc1 (fun k => k < w0.heap.size)), (1499, .cels (adr A1 (Int.toNat (k : Int) * 11)) #[.int .i64 (gopd xs1 (k : Int)).kind, .string (strOfNums (gopd xs1 (k : Int)).key), .int .i64 (gopd xs1 (k : Int)).step.1, .string (strOfNums (gopd xs1 (k : Int)).step.2.1), .string (strOfNums (gopd xs1 (k : Int)).step.2.2.1), .int .i64 (gopd xs1 (k : Int)).step.2.2.2, .string (strOfNums (gopd xs1 (k : Int)).timer.name), .int .i64 (gopd xs1 (k : Int)).timer.ver, .int .u64 (gopd xs1 (k : Int)).timer.tick, .int .u64 (gopd xs1 (k : Int)).timer.every, .slice fA1 (gopd xs1 (k : Int)).timer.steps.length fc1]), (1500, .cel (adr A1 (Int.toNat (k : Int) * 11)) (.int .i64 (gopd xs1 (k : Int)).kind)), (1501, .cel (adr A1 (Int.toNat (k : Int) * 11 + 1)) (.string (strOfNums (gopd xs1 (k : Int)).key))), (1502, .cel (adr A1 (Int.toNat (k : Int) * 11 + 2)) (.int .i64 (gopd xs1 (k : Int)).step.1)), (1503, .cel (adr A1 (Int.toNat (k : Int) * 11 + 3)) (.string (strOfNums (gopd xs1 (k : Int)).step.2.1))), (1504, .cel (adr A1 (Int.toNat (k : Int) * 11 + 4)) (.string (strOfNums (gopd xs1 (k : Int)).step.2.2.1))), (1505, .cel (adr A1 (Int.toNat (k : Int) * 11 + 5)) (.int .i64 (gopd xs1 (k : Int)).step.2.2.2)), (1506, .cel (adr A1 (Int.toNat (k : Int) * 11 + 6)) (.string (strOfNums (gopd xs1 (k : Int)).timer.name))), (1507, .cel (adr A1 (Int.toNat (k : Int) * 11 + 7)) (.int .i64 (gopd xs1 (k : Int)).timer.ver)), (1508, .cel (adr A1 (Int.toNat (k : Int) * 11 + 8)) (.int .u64 (gopd xs1 (k : Int)).timer.tick)), (1509, .cel (adr A1 (Int.toNat (k : Int) * 11 + 9)) (.int .u64 (gopd xs1 (k : Int)).timer.every)), (1510, .cel (adr A1 (Int.toNat (k : Int) * 11 + 10)) (.slice fA1 (gopd xs1 (k : Int)).timer.steps.length fc1)), (2010, .rd_ StE (fA2) (gopd xs2 (k : Int)).timer.steps fc2 (fun k => k < w0.heap.size)), (2499, .cels (adr A2 (Int.toNat (k : Int) * 11)) #[.int .i64 (gopd xs2 (k : Int)).kind, .string (strOfNums (gopd xs2 (k : Int)).key), .int .i64 (gopd xs2 (k : Int)).step.1, .string (strOfNums (gopd xs2 (k : Int)).step.2.1), .string (strOfNums (gopd xs2 (k : Int)).step.2.2.1), .int .i64 (gopd xs2 (k : Int)).step.2.2.2, .string (strOfNums (gopd xs2 (k : Int)).timer.name), .int .i64 (gopd xs2 (k : Int)).timer.ver, .int .u64 (gopd xs2 (k : Int)).timer.tick, .int .u64 (gopd xs2 (k : Int)).timer.every, .slice fA2 (gopd xs2 (k : Int)).timer.steps.length fc2]), (2500, .cel (adr A2 (Int.toNat (k : Int) * 11)) (.int .i64 (gopd xs2 (k : Int)).kind)), (2501, .cel (adr A2 (Int.toNat (k : Int) * 11 + 1)) (.string (strOfNums (gopd xs2 (k : Int)).key))), (2502, .cel (adr A2 (Int.toNat (k : Int) * 11 + 2)) (.int .i64 (gopd xs2 (k : Int)).step.1)), (2503, .cel (adr A2 (Int.toNat (k : Int) * 11 + 3)) (.string (strOfNums (gopd xs2 (k : Int)).step.2.1))), (2504, .cel (adr A2 (Int.toNat (k : Int) * 11 + 4)) (.string (strOfNums (gopd xs2 (k : Int)).step.2.2.1))), (2505, .cel (adr A2 (Int.toNat (k : Int) * 11 + 5)) (.int .i64 (gopd xs2 (k : Int)).step.2.2.2)), (2506, .cel (adr A2 (Int.toNat (k : Int) * 11 + 6)) (.string (strOfNums (gopd xs2 (k : Int)).timer.name))), (2507, .cel (adr A2 (Int.toNat (k : Int) * 11 + 7)) (.int .i64 (gopd xs2 (k : Int)).timer.ver)), (2508, .cel (adr A2 (Int.toNat (k : Int) * 11 + 8)) (.int .u64 (gopd xs2 (k : Int)).timer.tick)), (2509, .cel (adr A2 (Int.toNat (k : Int) * 11 + 9)) (.int .u64 (gopd xs2 (k : Int)).timer.every)), (2510, .cel (adr A2 (Int.toNat (k : Int) * 11 + 10)) (.slice fA2 (gopd xs2 (k : Int)).timer.steps.length fc2))] _ := SL.of H (sub_cons (sub_cons (sub_cons (sub_cons (sub_cons (sub_cons (sub_cons (sub_cons (sub_cons (sub_cons (sub_cons (sub_cons (sub_cons (sub_cons (sub_cons (sub_cons (sub_cons (sub_cons (sub_cons (sub_cons (sub_cons (sub_cons (sub_cons (sub_cons (sub_cons (sub_cons (sub_cons (sub_cons (sub_nil _) 2510 rfl) 2509 rfl) 2508 rfl) 2507 rfl) 2506 rfl) 2505 rfl) 2504 rfl) 2503 rfl) 2502 rfl) 2501 rfl) 2500 rfl) 2499 rfl) 2010 rfl) 1510 rfl) 1509 rfl) 1508 rfl) 1507 rfl) 1506 rfl) 1505 rfl) 1504 rfl) 1503 rfl) 1502 rfl) 1501 rfl) 1500 rfl) 1499 rfl) 1010 rfl) 902 rfl) 901 rfl)
  refine rT 0 F rfl (by kernel_rfl) pq rfl hS (fun w hS => x_move (F.t 0 rfl)) rfl fun a F => ?_
  refine rT 1 F rfl (by kernel_rfl) pq rfl hS (fun w hS => x_move (F.t 5 rfl)) rfl fun a F => ?_
  refine rT 2 F rfl (by kernel_rfl) pq rfl hS (fun w hS => x_iaddr_A Tryz.underlying37 ty93 ((H.rd 901 rfl)) (F.t 18 rfl) (F.t 19 rfl) (by omega) (by omega) _) rfl fun a F => ?_
  refine rT 3 F rfl (by kernel_rfl) pq rfl hS (fun w hS => x_loadn ty93 (F.t 20 rfl) rfl (hS 1499 _ rfl)) rfl fun a F => ?_
  refine rT 4 F rfl (by kernel_rfl) pq rfl hS (fun w hS => x_move (F.t 1 rfl)) rfl fun a F => ?_
  refine rT 5 F rfl (by kernel_rfl) pq rfl hS (fun w hS => x_move (F.t 5 rfl)) rfl fun a F => ?_
  refine rT 6 F rfl (by kernel_rfl) pq rfl hS (fun w hS => x_iaddr_A Tryz.underlying37 ty93 ((H.rd 902 rfl)) (F.t 22 rfl) (F.t 23 rfl) (by omega) (by omega) _) rfl fun a F => ?_
  refine rT 7 F rfl (by kernel_rfl) pq rfl hS (fun w hS => x_loadn ty93 (F.t 24 rfl) rfl (hS 2499 _ rfl)) rfl fun a F => ?_
  refine r_do 8 rfl (by kernel_rfl) rfl rfl ?_
  refine w_call F (x_enter Tryz.func58 (by kernel_rfl) rfl (by simp only [bM, F.t 21 rfl, F.t 25 rfl] <;> rfl)) (sameO_calls _ ((H.rd 1010 rfl)) ((H.rd 2010 rfl)) (hb1 _ hm1) (hb2 _ hm2)) rfl rfl ?_
  rintro _ w ⟨rfl, hm_⟩; refine ⟨_, rfl, ?_⟩; clear F; intro a F; have H := H.same hm_
  refine aN (SL.of H (sub_cons (sub_cons (sub_cons (sub_cons (sub_cons (sub_cons (sub_cons (sub_cons (sub_cons (sub_cons (sub_cons (sub_cons (sub_cons (sub_cons (sub_cons (sub_cons (sub_cons (sub_cons (sub_cons (sub_cons (sub_cons (sub_cons (sub_cons (sub_cons (sub_cons (sub_cons (sub_cons (sub_cons (sub_nil _) 2510 rfl) 2509 rfl) 2508 rfl) 2507 rfl) 2506 rfl) 2505 rfl) 2504 rfl) 2503 rfl) 2502 rfl) 2501 rfl) 2500 rfl) 2499 rfl) 2010 rfl) 1510 rfl) 1509 rfl) 1508 rfl) 1507 rfl) 1506 rfl) 1505 rfl) 1504 rfl) 1503 rfl) 1502 rfl) 1501 rfl) 1500 rfl) 1499 rfl) 1010 rfl) 902 rfl) 901 rfl)) fun hS => ?_
  refine rT 9 F rfl (by kernel_rfl) pq rfl hS (fun w hS => x_assign (F.t 26 rfl)) rfl fun a F => ?_
  refine r_end (by kernel_rfl) ?_; clear hS
  refine hK10 _ _ (sr fun _ hK11 => la F rfl (x_move (F.t 6 rfl)) fun a F => la F rfl (x_not (F.t 27 rfl)) fun a F => wn (hK11 _ _ ?_))
  refine wp_cond_split (F.t 28 rfl) (fun hc28 => ?_) (fun hc28 => ?_)
  ·have hk28_4 := hc28; try simp only [bL] at hc28
   have hz := same_at (xs := xs1) (ys := xs2) (fun l => gopd l (k : Int)) hc28
   refine sr fun _ hK12 => la F rfl (x_assign rfl) fun a F => wn (hK12 _ _ ?_)
   refine wp_ret ?_
   try simp only [Exit.then, Exit.inBlock]
   exact fin_ret F (res1 F rfl rfl) ⟨by rw [hz] <;> rfl, H.mods⟩
  have hk28_5 := hc28; try simp only [bL] at hc28
  refine wp_skip (hK9 _ _ ?_)
  refine wp_region_lit ?_
  refine la F rfl (x_move (F.t 5 rfl)) fun a F => la F rfl (x_add (F.t 16 rfl) rfl (w64 (by omega) (by omega))) fun a F => la F rfl (x_assign (F.t 17 rfl)) fun a F => ?_
  refine wpList_nil ?_
  exact ⟨_, by omega, ⟨k + 1, rfl, by omega, same_step (gopd_some (xs := xs1) (i := (k : Int)) (by omega) (by omega)) (gopd_some (xs := xs2) (i := (k : Int)) (by omega) (by omega)) hq0_1 hc28, (((F.bare.add F 5 rfl).add F 1 rfl).add F 0 rfl), H.sub _ (sub_cons (sub_cons (sub_nil _) 902 rfl) 901 rfl)⟩⟩
 have hk15_6 := hc15; try simp only [bL] at hc15
 have hz := same_yes (xs := xs1) (ys := xs2) (k := k) (by omega) hll hq0_1
 refine wp_exit ?_
 refine hK5 _ _ (sr fun _ hK13 => la F rfl (x_assign rfl) fun a F => wn (hK13 _ _ ?_))
 refine wp_ret ?_
 try simp only [Exit.then, Exit.inBlock]
 exact fin_ret F (res1 F rfl rfl) ⟨by rw [hz] <;> rfl, H.mods⟩
theorem toldR_calls (w0 : World) {r : SReqD} {okr0 : Nat → Prop} {Ar0 : Option Addr} {cr0 : Nat} (hrr0 : Rd OpdE w0 okr0 Ar0 r.ops cr0) : Calls Tryz.prog 18 #[.agg #[.string (strOfNums r.client), .int .i64 r.num, .slice Ar0 r.ops.length cr0]] w0 fun e w' => e = .returned (.agg #[.string (strOfNums r.client), .int .i64 r.num, .slice Ar0 r.ops.length cr0]) ∧ Mods (fun _ => False) w0 w' := by
 refine cow Tryz.func18 rfl Tryz.ntmps18 (Nat.le_of_ble_eq_true rfl) fun a F => ?_
 have H := Hp.nil (fun _ => False) w0
 have H := H.arg 900 hrr0.all (fun _ h => ⟨h, fun h => h⟩)
 have hler0 := hrr0.le; unfold maxLen at hler0
 refine sr fun _ hK1 => ?_
 refine lp rfl ?_
 refine w_box 1 F H rfl (F.t 0 rfl) ?_
 clear F H; intro a w b1 F H
 refine lp rfl ?_
 refine w_alloc 2 F H rfl ty43 ?_
 clear F H; intro a w b2 F H
 refine wn (hK1 _ _ (sr fun _ hK2 => la F rfl (x_faddr Tryz.underlying39 rfl ty9 (by decide) (F.t 1 rfl) rfl) fun a F => la F rfl (x_load1 ty9 (F.t 3 rfl) (blk_cell (H.at 1 rfl) 0 rfl)) fun a F => la F rfl (x_faddr Tryz.underlying39 rfl ty3 (by decide) (F.t 1 rfl) rfl) fun a F => la F rfl (x_load1 ty3 (F.t 5 rfl) (blk_cell (H.at 1 rfl) 1 rfl)) fun a F => la F rfl (x_faddr Tryz.underlying39 rfl ty37 (by decide) (F.t 1 rfl) rfl) fun a F => la F rfl (x_load1 ty37 (F.t 7 rfl) (blk_cell (H.at 1 rfl) 2 rfl)) fun a F => ?_))
 refine la F rfl (x_buildS (cells := #[.string (strOfNums r.client), .int .i64 r.num, .slice Ar0 r.ops.length cr0]) (places := #[(0, 1), (1, 1), (2, 1)]) Tryz.underlying43 ty43 (by kernel_rfl) (by simp only [bM, F.t 4 rfl, F.t 6 rfl, F.t 8 rfl] <;> rfl) rfl) fun a F => ?_
 refine lp rfl ?_
 refine w_storeA 2 H ty43 rfl (F.t 2 rfl) (F.t 9 rfl) rfl (by simp [Value.cells, Value.oneCell']) rfl ?_
 clear H; intro w H
 refine wn (hK2 _ _ ?_)
 refine wp_ret ?_
 try simp only [Exit.then, Exit.inBlock]
 exact fin_ret F (resc F rfl rfl (H.at 2 rfl) ty43 rfl) ⟨rfl, H.mods⟩
theorem sameQ_calls (w0 : World) {p q : SReqD} {okp0 : Nat → Prop} {Ap0 : Option Addr} {cp0 : Nat} (hrp0 : Rd OpdE w0 okp0 Ap0 p.ops cp0) {okq0 : Nat → Prop} {Aq0 : Option Addr} {cq0 : Nat} (hrq0 : Rd OpdE w0 okq0 Aq0 q.ops cq0) (ha : SReqB p) (hb : SReqB q) : Calls Tryz.prog 21 #[.agg #[.string (strOfNums p.client), .int .i64 p.num, .slice Ap0 p.ops.length cp0], .agg #[.string (strOfNums q.client), .int .i64 q.num, .slice Aq0 q.ops.length cq0]] w0 fun e w' => e = .returned (.bool (decide (p = q))) ∧ Mods (fun _ => False) w0 w' := by
 refine cow Tryz.func21 rfl Tryz.ntmps21 (Nat.le_of_ble_eq_true rfl) fun a F => ?_
 have H := Hp.nil (fun _ => False) w0
 have H := H.arg 900 hrp0.all (fun _ h => ⟨h, fun h => h⟩)
 have hlep0 := hrp0.le; unfold maxLen at hlep0
 have H := H.arg 950 hrq0.all (fun _ h => ⟨h, fun h => h⟩)
 have hleq0 := hrq0.le; unfold maxLen at hleq0
 refine sr fun _ hK1 => ?_
 refine lp rfl ?_
 refine w_box 2 F H rfl (F.t 0 rfl) ?_
 clear F H; intro a w b2 F H
 refine lp rfl ?_
 refine w_box 3 F H rfl (F.t 1 rfl) ?_
 clear F H; intro a w b3 F H
 refine la F rfl (x_assign rfl) fun a F => wn (hK1 _ _ (sr fun _ hK2 => la F rfl (x_faddr Tryz.underlying39 rfl ty37 (by decide) (F.t 2 rfl) rfl) fun a F => la F rfl (x_load1 ty37 (F.t 6 rfl) (blk_cell (H.at 2 rfl) 2 rfl)) fun a F => la F rfl (x_faddr Tryz.underlying43 rfl ty37 (by decide) (F.t 3 rfl) rfl) fun a F => la F rfl (x_load1 ty37 (F.t 8 rfl) (blk_cell (H.at 3 rfl) 2 rfl)) fun a F => ?_))
 refine lp rfl ?_
 refine w_call F (x_enter Tryz.func22 (by kernel_rfl) rfl (by simp only [bM, F.t 7 rfl, F.t 9 rfl] <;> rfl)) (sameOs_calls _ ((H.rd 900 rfl)) ((H.rd 950 rfl)) ha.ops hb.ops) rfl rfl ?_
 rintro _ w ⟨rfl, hm_⟩; refine ⟨_, rfl, ?_⟩; clear F; intro a F; have H := H.same hm_
 refine la F rfl (x_assign (F.t 10 rfl)) fun a F => wn (hK2 _ _ (sr fun _ hK3 => la F rfl (x_faddr Tryz.underlying39 rfl ty9 (by decide) (F.t 2 rfl) rfl) fun a F => la F rfl (x_load1 ty9 (F.t 11 rfl) (blk_cell (H.at 2 rfl) 0 rfl)) fun a F => la F rfl (x_faddr Tryz.underlying43 rfl ty9 (by decide) (F.t 3 rfl) rfl) fun a F => la F rfl (x_load1 ty9 (F.t 13 rfl) (blk_cell (H.at 3 rfl) 0 rfl)) fun a F => la F rfl (x_eqn (xs := p.client) (ys := q.client) (F.t 12 rfl) (F.t 14 rfl) ha.client hb.client) fun a F => ?_))
 refine la F rfl (x_move (F.t 15 rfl)) fun a F => ?_
 refine split_bool F 16 rfl (fun hb16 => ?_) (fun hb16 => ?_)
 ·have hc16 := hb16; try simp only [bL] at hc16
  refine lgs F hb16 rfl (x_faddr Tryz.underlying39 rfl ty3 (by decide) (F.t 2 rfl) rfl) fun a F => lgs F hb16 rfl (x_load1 ty3 (F.t 17 rfl) (blk_cell (H.at 2 rfl) 1 rfl)) fun a F => lgs F hb16 rfl (x_faddr Tryz.underlying43 rfl ty3 (by decide) (F.t 3 rfl) rfl) fun a F => lgs F hb16 rfl (x_load1 ty3 (F.t 19 rfl) (blk_cell (H.at 3 rfl) 1 rfl)) fun a F => lgs F hb16 rfl (x_eql (F.t 18 rfl) (F.t 20 rfl)) fun a F => la F rfl (x_pickT (F.t 16 rfl) hb16 (F.t 21 rfl)) fun a F => la F rfl (x_move (F.t 22 rfl)) fun a F => ?_
  refine split_bool F 23 rfl (fun hb23 => ?_) (fun hb23 => ?_)
  ·have hc23 := hb23; try simp only [bL] at hc23
   refine lgs F hb23 rfl (x_move (F.t 5 rfl)) fun a F => la F rfl (x_pickT (F.t 23 rfl) hb23 (F.t 24 rfl)) fun a F => la F rfl (x_assign (F.t 25 rfl)) fun a F => wn (hK3 _ _ ?_)
   refine wp_ret ?_
   try simp only [Exit.then, Exit.inBlock]
   have hv : (decide (p.ops = q.ops)) = decide (p = q) := by rw [Bool.eq_iff_iff]; simp only [decide_eq_true_iff, sreq_same]; first | (simp [hc16, hc23]; done) | (simp [hc16, hc23]; omega)
   exact fin_ret F (res1 (v := .bool (decide (p.ops = q.ops))) F rfl rfl) ⟨by rw [hv], H.mods⟩
  have hc23 := hb23; try simp only [bL] at hc23
  refine los F hb23 rfl fun a F => la F rfl (x_pickF (F.t 23 rfl) hb23 rfl) fun a F => la F rfl (x_assign (F.t 25 rfl)) fun a F => wn (hK3 _ _ ?_)
  refine wp_ret ?_
  try simp only [Exit.then, Exit.inBlock]
  have hv : false = decide (p = q) := by rw [Bool.eq_iff_iff]; simp only [decide_eq_true_iff, sreq_same]; first | (simp [hc16, hc23]; done) | (simp [hc16, hc23]; omega)
  exact fin_ret F (res1 (v := .bool false) F rfl rfl) ⟨by rw [hv], H.mods⟩
 have hc16 := hb16; try simp only [bL] at hc16
 refine los F hb16 rfl fun a F => los F hb16 rfl fun a F => los F hb16 rfl fun a F => los F hb16 rfl fun a F => los F hb16 rfl fun a F => la F rfl (x_pickF (F.t 16 rfl) hb16 rfl) fun a F => la F rfl (x_move (F.t 22 rfl)) fun a F => lo F rfl fun a F => ?_
 refine la F rfl (x_pickF (F.t 23 rfl) rfl rfl) fun a F => la F rfl (x_assign (F.t 25 rfl)) fun a F => wn (hK3 _ _ ?_)
 refine wp_ret ?_
 try simp only [Exit.then, Exit.inBlock]
 have hv : false = decide (p = q) := by rw [Bool.eq_iff_iff]; simp only [decide_eq_true_iff, sreq_same]; first | (simp [hc16]; done) | (simp [hc16]; omega)
 exact fin_ret F (res1 (v := .bool false) F rfl rfl) ⟨by rw [hv], H.mods⟩
end Go.Proofs.YtiiklnghnifmjaaGreatDoor.Act
