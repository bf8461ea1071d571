/- The walks of requests. -/
import Derived.Test.YtiiklnghnifmjaaGreatDoorChgAZc
import Derived.Test.YtiiklnghnifmjaaGreatDoorCrcXZc
import Derived.Test.YtiiklnghnifmjaaGreatDoorSesDZc
import Derived.Test.YtiiklnghnifmjaaGreatDoorSeqZc
set_option linter.unusedVariables false
set_option maxRecDepth 100000
set_option maxHeartbeats 1000000
set_option linter.unusedSimpArgs false
namespace Go.Proofs.YtiiklnghnifmjaaGreatDoor.Act
open Go.RowKit Go.Proofs.YtiiklnghnifmjaaGreatDoor.Sx Go.Proofs.YtiiklnghnifmjaaGreatDoor.Cod Go.Proofs.YtiiklnghnifmjaaGreatDoor.Num
theorem ty37 : TyI Tryz.prog 37 (.slice none 0 0) 1 24 false := ⟨by kernel_rfl, _, Tryz.underlying37, rfl⟩
theorem ty39 : TyI Tryz.prog 39 (.agg #[.string (strOfNums []), .int .i64 0, .slice none 0 0]) 3 48 true := ⟨by kernel_rfl, _, Tryz.underlying39, rfl⟩
theorem ty88 : TyI Tryz.prog 88 (.int .i64 0) 1 8 false := ⟨by kernel_rfl, _, Tryz.underlying88, rfl⟩
theorem ty93 : TyI Tryz.prog 93 (.agg #[.int .i64 0, .string (strOfNums []), .int .i64 0, .string (strOfNums []), .string (strOfNums []), .int .i64 0, .string (strOfNums []), .int .i64 0, .int .u64 0, .int .u64 0, .slice none 0 0]) 11 136 true := ⟨by kernel_rfl, _, Tryz.underlying93, rfl⟩
theorem st_eqD {w : World} {x y : StepD} (hx0 : Byte x.2.1) (hy0 : Byte y.2.1) (hx1 : Byte x.2.2.1) (hy1 : Byte y.2.2.1) : (Op.eqFields 9999 #[.int .i64 x.1, .string (strOfNums x.2.1), .string (strOfNums x.2.2.1), .int .i64 x.2.2.2] #[.int .i64 y.1, .string (strOfNums y.2.1), .string (strOfNums y.2.2.1), .int .i64 y.2.2.2] (Tryz.prog.fieldsOf 91).toList).run Tryz.prog w = .ok (decide (x = y)) w := by
 have key : (x = y) = (x.1 = y.1 ∧ x.2.1 = y.2.1 ∧ x.2.2.1 = y.2.2.1 ∧ x.2.2.2 = y.2.2.2) := propext (by obtain ⟨x0, x1, x2, x3⟩ := x; obtain ⟨y0, y1, y2, y3⟩ := y; simp)
 have key2 : decide (x = y) = decide (x.1 = y.1 ∧ x.2.1 = y.2.1 ∧ x.2.2.1 = y.2.2.1 ∧ x.2.2.2 = y.2.2.2) := by simp only [key]
 rw [key2]
 simp only [Program.fieldsOf, Tryz.underlying91]
 simp [Op.eqFields, part, go_sem, tl_eq]
 have hs0 : (strOfNums x.2.1 = strOfNums y.2.1) = (x.2.1 = y.2.1) := propext ⟨sn_inj _ _ hx0 hy0, fun h => by rw [h]⟩
 have hs1 : (strOfNums x.2.2.1 = strOfNums y.2.2.1) = (x.2.2.1 = y.2.2.1) := propext ⟨sn_inj _ _ hx1 hy1, fun h => by rw [h]⟩
 simp only [hs0, hs1]
 by_cases h0 : x.1 = y.1 <;> by_cases h1 : x.2.1 = y.2.1 <;> by_cases h2 : x.2.2.1 = y.2.2.1 <;> by_cases h3 : x.2.2.2 = y.2.2.2 <;> simp [h0, h1, h2, h3]
theorem st_eqs {dst : Option Tmp} {ty t' : TypeId} {pos : String} {af : Array Edge} {gg : Option (Nat × Bool)} {a : Act} {w : World} {u v : Operand} {x y : StepD} (hx0 : Byte x.2.1) (hy0 : Byte y.2.1) (hx1 : Byte x.2.2.1) (hy1 : Byte y.2.2.1) (hu : a.eval u = .agg #[.int .i64 x.1, .string (strOfNums x.2.1), .string (strOfNums x.2.2.1), .int .i64 x.2.2.2]) (hv : a.eval v = .agg #[.int .i64 y.1, .string (strOfNums y.2.1), .string (strOfNums y.2.2.1), .int .i64 y.2.2.2]) : At Tryz.prog ⟨dst, .binOp .eql 91 u v t', ty, pos, af, gg⟩ a w (.bool (decide (x = y))) :=
 x_eqS (by kernel_rfl) (by kernel_rfl) (by kernel_rfl) hu hv (st_eqD hx0 hy0 hx1 hy1)
theorem st_nes {dst : Option Tmp} {ty t' : TypeId} {pos : String} {af : Array Edge} {gg : Option (Nat × Bool)} {a : Act} {w : World} {u v : Operand} {x y : StepD} (hx0 : Byte x.2.1) (hy0 : Byte y.2.1) (hx1 : Byte x.2.2.1) (hy1 : Byte y.2.2.1) (hu : a.eval u = .agg #[.int .i64 x.1, .string (strOfNums x.2.1), .string (strOfNums x.2.2.1), .int .i64 x.2.2.2]) (hv : a.eval v = .agg #[.int .i64 y.1, .string (strOfNums y.2.1), .string (strOfNums y.2.2.1), .int .i64 y.2.2.2]) : At Tryz.prog ⟨dst, .binOp .neq 91 u v t', ty, pos, af, gg⟩ a w (.bool (!decide (x = y))) :=
 x_neS (by kernel_rfl) (by kernel_rfl) (by kernel_rfl) hu hv (st_eqD hx0 hy0 hx1 hy1)
theorem obare_calls (w0 : World) {t : TimerD} {okt0 : Nat → Prop} {At0 : Option Addr} {ct0 : Nat} (hrt0 : Rd StE w0 okt0 At0 t.steps ct0) : Calls Tryz.prog 118 #[.agg #[.string (strOfNums t.name), .int .i64 t.ver, .int .u64 t.tick, .int .u64 t.every, .slice At0 t.steps.length ct0]] w0 fun e w' => e = .returned (.bool (bareT t)) ∧ Mods (fun _ => False) w0 w' := by
 refine cow Tryz.func118 rfl Tryz.ntmps118 (Nat.le_of_ble_eq_true rfl) fun a F => ?_
 have H := Hp.nil (fun _ => False) w0
 have H := H.arg 900 hrt0.all (fun _ h => ⟨h, fun h => h⟩)
 have hlet0 := hrt0.le; unfold maxLen at hlet0
 refine sr fun _ hK1 => ?_
 refine lp rfl ?_
 refine w_box 1 F H rfl (F.t 0 rfl) ?_
 clear F H; intro a w b1 F H
 refine la F rfl (x_assign rfl) fun a F => wn (hK1 _ _ (sr fun _ hK2 => la F rfl (x_faddr Tryz.underlying64 rfl ty9 (by decide) (F.t 1 rfl) rfl) fun a F => la F rfl (x_load1 ty9 (F.t 3 rfl) (blk_cell (H.at 1 rfl) 0 rfl)) fun a F => la F rfl (x_eqn0 (xs := t.name) (F.t 4 rfl) (show _ = Value.string (strOfNums ([] : List Int)) by kernel_rfl)) fun a F => la F rfl (x_move (F.t 5 rfl)) fun a F => ?_))
 refine split_bool F 6 rfl (fun hb6 => ?_) (fun hb6 => ?_)
 ·have hc6 := hb6; try simp only [bL] at hc6
  refine lgs F hb6 rfl (x_faddr Tryz.underlying64 rfl ty3 (by decide) (F.t 1 rfl) rfl) fun a F => lgs F hb6 rfl (x_load1 ty3 (F.t 7 rfl) (blk_cell (H.at 1 rfl) 1 rfl)) fun a F => lgs F hb6 rfl (x_eql (F.t 8 rfl) rfl) fun a F => la F rfl (x_pickT (F.t 6 rfl) hb6 (F.t 9 rfl)) fun a F => la F rfl (x_move (F.t 10 rfl)) fun a F => ?_
  refine split_bool F 11 rfl (fun hb11 => ?_) (fun hb11 => ?_)
  ·have hc11 := hb11; try simp only [bL] at hc11
   refine lgs F hb11 rfl (x_faddr Tryz.underlying64 rfl ty59 (by decide) (F.t 1 rfl) rfl) fun a F => lgs F hb11 rfl (x_load1 ty59 (F.t 12 rfl) (blk_cell (H.at 1 rfl) 2 rfl)) fun a F => lgs F hb11 rfl (x_eql (F.t 13 rfl) rfl) fun a F => la F rfl (x_pickT (F.t 11 rfl) hb11 (F.t 14 rfl)) fun a F => la F rfl (x_move (F.t 15 rfl)) fun a F => ?_
   refine split_bool F 16 rfl (fun hb16 => ?_) (fun hb16 => ?_)
   ·have hc16 := hb16; try simp only [bL] at hc16
    refine lgs F hb16 rfl (x_faddr Tryz.underlying64 rfl ty59 (by decide) (F.t 1 rfl) rfl) fun a F => lgs F hb16 rfl (x_load1 ty59 (F.t 17 rfl) (blk_cell (H.at 1 rfl) 3 rfl)) fun a F => lgs F hb16 rfl (x_eql (F.t 18 rfl) rfl) fun a F => la F rfl (x_pickT (F.t 16 rfl) hb16 (F.t 19 rfl)) fun a F => la F rfl (x_move (F.t 20 rfl)) fun a F => ?_
    refine split_bool F 21 rfl (fun hb21 => ?_) (fun hb21 => ?_)
    ·have hc21 := hb21; try simp only [bL] at hc21
     refine lgs F hb21 rfl (x_faddr Tryz.underlying64 rfl ty62 (by decide) (F.t 1 rfl) rfl) fun a F => lgs F hb21 rfl (x_load1 ty62 (F.t 22 rfl) (blk_cell (H.at 1 rfl) 4 rfl)) fun a F => lgs F hb21 rfl (x_len_slice Tryz.underlying62 (F.t 23 rfl)) fun a F => lgs F hb21 rfl (x_eql (F.t 24 rfl) rfl) fun a F => la F rfl (x_pickT (F.t 21 rfl) hb21 (F.t 25 rfl)) fun a F => la F rfl (x_assign (F.t 26 rfl)) fun a F => wn (hK2 _ _ ?_)
     refine wp_ret ?_
     try simp only [Exit.then, Exit.inBlock]
     refine fin_ret F (res1 (v := .bool (decide ((t.steps.length : Int) = 0))) F rfl rfl) ⟨?_, H.mods⟩
     congr 2; unfold bareT; first | (simp [hc6, hc11, hc16, hc21]; done) | (simp [hc6, hc11, hc16, hc21]; omega) | (simp [hc6, hc11, hc16, hc21]; intros; omega) | (rw [Bool.eq_iff_iff]; simp [hc6, hc11, hc16, hc21]; first | omega | (intros; omega))
    have hc21 := hb21; try simp only [bL] at hc21
    refine los F hb21 rfl fun a F => los F hb21 rfl fun a F => los F hb21 rfl fun a F => los F hb21 rfl fun a F => la F rfl (x_pickF (F.t 21 rfl) hb21 rfl) fun a F => la F rfl (x_assign (F.t 26 rfl)) fun a F => wn (hK2 _ _ ?_)
    refine wp_ret ?_
    try simp only [Exit.then, Exit.inBlock]
    refine fin_ret F (res1 (v := .bool false) F rfl rfl) ⟨?_, H.mods⟩
    congr 2; unfold bareT; first | (simp [hc6, hc11, hc16, hc21]; done) | (simp [hc6, hc11, hc16, hc21]; omega) | (simp [hc6, hc11, hc16, hc21]; intros; omega) | (rw [Bool.eq_iff_iff]; simp [hc6, hc11, hc16, hc21]; first | omega | (intros; omega))
   have hc16 := hb16; try simp only [bL] at hc16
   refine los F hb16 rfl fun a F => los F hb16 rfl fun a F => los F hb16 rfl fun a F => la F rfl (x_pickF (F.t 16 rfl) hb16 rfl) fun a F => la F rfl (x_move (F.t 20 rfl)) fun a F => lo F rfl fun a F => lo F rfl fun a F => lo F rfl fun a F => ?_
   refine lo F rfl fun a F => la F rfl (x_pickF (F.t 21 rfl) rfl rfl) fun a F => la F rfl (x_assign (F.t 26 rfl)) fun a F => wn (hK2 _ _ ?_)
   refine wp_ret ?_
   try simp only [Exit.then, Exit.inBlock]
   refine fin_ret F (res1 (v := .bool false) F rfl rfl) ⟨?_, H.mods⟩
   congr 2; unfold bareT; first | (simp [hc6, hc11, hc16]; done) | (simp [hc6, hc11, hc16]; omega) | (simp [hc6, hc11, hc16]; intros; omega) | (rw [Bool.eq_iff_iff]; simp [hc6, hc11, hc16]; first | omega | (intros; omega))
  have hc11 := hb11; try simp only [bL] at hc11
  refine los F hb11 rfl fun a F => los F hb11 rfl fun a F => los F hb11 rfl fun a F => la F rfl (x_pickF (F.t 11 rfl) hb11 rfl) fun a F => la F rfl (x_move (F.t 15 rfl)) fun a F => lo F rfl fun a F => lo F rfl fun a F => lo F rfl fun a F => ?_
  refine la F rfl (x_pickF (F.t 16 rfl) rfl rfl) fun a F => la F rfl (x_move (F.t 20 rfl)) fun a F => lo F rfl fun a F => lo F rfl fun a F => lo F rfl fun a F => lo F rfl fun a F => la F rfl (x_pickF (F.t 21 rfl) rfl rfl) fun a F => la F rfl (x_assign (F.t 26 rfl)) fun a F => ?_
  refine wn (hK2 _ _ ?_)
  refine wp_ret ?_
  try simp only [Exit.then, Exit.inBlock]
  refine fin_ret F (res1 (v := .bool false) F rfl rfl) ⟨?_, H.mods⟩
  congr 2; unfold bareT; first | (simp [hc6, hc11]; done) | (simp [hc6, hc11]; omega) | (simp [hc6, hc11]; intros; omega) | (rw [Bool.eq_iff_iff]; simp [hc6, hc11]; first | omega | (intros; omega))
 have hc6 := hb6; try simp only [bL] at hc6
 refine los F hb6 rfl fun a F => los F hb6 rfl fun a F => los F hb6 rfl fun a F => la F rfl (x_pickF (F.t 6 rfl) hb6 rfl) fun a F => la F rfl (x_move (F.t 10 rfl)) fun a F => lo F rfl fun a F => lo F rfl fun a F => lo F rfl fun a F => ?_
 refine la F rfl (x_pickF (F.t 11 rfl) rfl rfl) fun a F => la F rfl (x_move (F.t 15 rfl)) fun a F => lo F rfl fun a F => lo F rfl fun a F => lo F rfl fun a F => la F rfl (x_pickF (F.t 16 rfl) rfl rfl) fun a F => la F rfl (x_move (F.t 20 rfl)) fun a F => lo F rfl fun a F => ?_
 refine lo F rfl fun a F => lo F rfl fun a F => lo F rfl fun a F => la F rfl (x_pickF (F.t 21 rfl) rfl rfl) fun a F => la F rfl (x_assign (F.t 26 rfl)) fun a F => wn (hK2 _ _ ?_)
 refine wp_ret ?_
 try simp only [Exit.then, Exit.inBlock]
 refine fin_ret F (res1 (v := .bool false) F rfl rfl) ⟨?_, H.mods⟩
 congr 2; unfold bareT; first | (simp [hc6]; done) | (simp [hc6]; omega) | (simp [hc6]; intros; omega) | (rw [Bool.eq_iff_iff]; simp [hc6]; first | omega | (intros; omega))
theorem overO_calls (w0 : World) {pp : Bool} (hL : LibAt pp w0) {o : OpD} {oko0 : Nat → Prop} {Ao0 : Option Addr} {co0 : Nat} (hro0 : Rd StE w0 oko0 Ao0 o.timer.steps co0) (hb : OpB o) : Calls Tryz.prog 109 #[.agg #[.int .i64 o.kind, .string (strOfNums o.key), .int .i64 o.step.1, .string (strOfNums o.step.2.1), .string (strOfNums o.step.2.2.1), .int .i64 o.step.2.2.2, .string (strOfNums o.timer.name), .int .i64 o.timer.ver, .int .u64 o.timer.tick, .int .u64 o.timer.every, .slice Ao0 o.timer.steps.length co0]] w0 fun e w' => e = .returned (.bool (overO o)) ∧ Mods (fun _ => False) w0 w' := by
 refine cow Tryz.func109 rfl Tryz.ntmps109 (Nat.le_of_ble_eq_true rfl) fun a F => ?_
 have H := Hp.nil (fun _ => False) w0
 have H := H.arg 900 hro0.all (fun _ h => ⟨h, fun h => h⟩)
 have hleo0 := hro0.le; unfold maxLen at hleo0
 have H := H.libN 990 hL
 refine sr fun _ hK1 => ?_
 refine lp rfl ?_
 refine w_box 1 F H rfl (F.t 0 rfl) ?_
 clear F H; intro a w b1 F H
 refine la F rfl (x_assign rfl) fun a F => wn (hK1 _ _ (sr fun _ hK2 => la F rfl (x_faddr Tryz.underlying93 rfl ty91 (by decide) (F.t 1 rfl) rfl) fun a F => la F rfl (x_loadn (cs := #[.int .i64 o.step.1, .string (strOfNums o.step.2.1), .string (strOfNums o.step.2.2.1), .int .i64 o.step.2.2.2]) ty91 (F.t 5 rfl) rfl (blk_sub (H.at 1 rfl) 2 4 rfl)) fun a F => la F rfl (x_buildS (cells := #[.int .i64 0, .string (strOfNums []), .string (strOfNums []), .int .i64 0]) (places := #[(0, 1), (1, 1), (2, 1), (3, 1)]) Tryz.underlying91 ty91 (by kernel_rfl) Array.map_empty rfl) fun a F => la F rfl (st_eqs (x := o.step) (y := zS) hb.step.1 zS_B.1 hb.step.2.1 zS_B.2.1 (F.t 6 rfl) (F.t 7 rfl)) fun a F => la F rfl (x_assign (F.t 8 rfl)) fun a F => ?_))
 refine wn (hK2 _ _ ?_)
 refine wp_seq_k fun _ hK3 => ?_
 refine sr fun _ hK4 => la F rfl (x_faddr Tryz.underlying93 rfl ty88 (by decide) (F.t 1 rfl) rfl) fun a F => la F rfl (x_load1 ty88 (F.t 9 rfl) (blk_cell (H.at 1 rfl) 0 rfl)) fun a F => wn (hK4 _ _ (wp_block ?_))
 refine wp_seq_k fun _ hK5 => ?_
 refine sr fun _ hK6 => la F rfl (x_eql (F.t 10 rfl) rfl) fun a F => la F rfl (x_assign (F.t 12 rfl)) fun a F => wn (hK6 _ _ ?_)
 refine wp_cond_split (F.t 11 rfl) (fun hc11 => ?_) (fun hc11 => ?_)
 ·have hk11_1 := hc11; try simp only [bL] at hc11
  refine wp_skip (hK5 _ _ ?_)
  refine wp_cond_true ((F.t 11 rfl).trans (by rw [hk11_1])) ?_
  refine sr fun _ hK7 => la F rfl (x_faddr Tryz.underlying93 rfl ty9 (by decide) (F.t 1 rfl) rfl) fun a F => la F rfl (x_load1 ty9 (F.t 14 rfl) (blk_cell (H.at 1 rfl) 1 rfl)) fun a F => la F rfl (x_nen0 (xs := o.key) (F.t 15 rfl) (show _ = Value.string (strOfNums ([] : List Int)) by kernel_rfl)) fun a F => la F rfl (x_move (F.t 16 rfl)) fun a F => ?_
  refine split_bool F 17 rfl (fun hb17 => ?_) (fun hb17 => ?_)
  ·have hc17 := hb17; try simp only [bL] at hc17
   refine lgs F hb17 rfl (x_faddr Tryz.underlying93 rfl ty9 (by decide) (F.t 1 rfl) rfl) fun a F => lgs F hb17 rfl (x_load1 ty9 (F.t 18 rfl) (blk_cell (H.at 1 rfl) 1 rfl)) fun a F => lgs F hb17 rfl (x_len_sn (xs := o.key) Tryz.underlying9 (F.t 19 rfl)) fun a F => lgs F hb17 rfl (x_leq (F.t 20 rfl) rfl) fun a F => la F rfl (x_pickT (F.t 17 rfl) hb17 (F.t 21 rfl)) fun a F => la F rfl (x_move (F.t 22 rfl)) fun a F => ?_
   refine split_bool F 23 rfl (fun hb23 => ?_) (fun hb23 => ?_)
   ·have hc23 := hb23; try simp only [bL] at hc23
    refine lgs F hb23 rfl (x_move (F.t 3 rfl)) fun a F => la F rfl (x_pickT (F.t 23 rfl) hb23 (F.t 24 rfl)) fun a F => la F rfl (x_move (F.t 25 rfl)) fun a F => ?_
    refine split_bool F 26 rfl (fun hb26 => ?_) (fun hb26 => ?_)
    ·have hc26 := hb26; try simp only [bL] at hc26
     refine lgs F hb26 rfl (x_faddr Tryz.underlying93 rfl ty64 (by decide) (F.t 1 rfl) rfl) fun a F => lgs F hb26 rfl (x_loadn (cs := #[.string (strOfNums o.timer.name), .int .i64 o.timer.ver, .int .u64 o.timer.tick, .int .u64 o.timer.every, .slice Ao0 o.timer.steps.length co0]) ty64 (F.t 27 rfl) rfl (blk_sub (H.at 1 rfl) 6 5 rfl)) fun a F => ?_
     refine lpo ((wo F rfl).trans (by rw [hb26]; rfl)) ?_
     refine w_call F (x_enter Tryz.func118 (by kernel_rfl) rfl (by simp only [bM, F.t 28 rfl] <;> rfl)) (obare_calls (t := o.timer) _ ((H.rd 900 rfl))) rfl rfl ?_
     rintro _ w ⟨rfl, hm_⟩; refine ⟨_, rfl, ?_⟩; clear F; intro a F; have H := H.same hm_
     refine la F rfl (x_pickT (F.t 26 rfl) hb26 (F.t 29 rfl)) fun a F => la F rfl (x_assign (F.t 30 rfl)) fun a F => wn (hK7 _ _ ?_)
     refine wp_ret ?_
     try simp only [Exit.then, Exit.inBlock]
     refine fin_ret F (res1 (v := .bool (bareT o.timer)) F rfl rfl) ⟨?_, H.mods⟩
     congr 2; unfold overO nameI; first | (simp [hc11, hc17, hc23, hc26]; done) | (simp [hc11, hc17, hc23, hc26]; omega) | (simp [hc11, hc17, hc23, hc26]; intros; omega) | (rw [Bool.eq_iff_iff]; simp [hc11, hc17, hc23, hc26]; first | omega | (intros; omega))
    have hc26 := hb26; try simp only [bL] at hc26
    refine los F hb26 rfl fun a F => los F hb26 rfl fun a F => los F hb26 rfl fun a F => la F rfl (x_pickF (F.t 26 rfl) hb26 rfl) fun a F => la F rfl (x_assign (F.t 30 rfl)) fun a F => wn (hK7 _ _ ?_)
    refine wp_ret ?_
    try simp only [Exit.then, Exit.inBlock]
    refine fin_ret F (res1 (v := .bool false) F rfl rfl) ⟨?_, H.mods⟩
    congr 2; unfold overO nameI; first | (simp [hc11, hc17, hc23, hc26]; done) | (simp [hc11, hc17, hc23, hc26]; omega) | (simp [hc11, hc17, hc23, hc26]; intros; omega) | (rw [Bool.eq_iff_iff]; simp [hc11, hc17, hc23, hc26]; first | omega | (intros; omega))
   have hc23 := hb23; try simp only [bL] at hc23
   refine los F hb23 rfl fun a F => la F rfl (x_pickF (F.t 23 rfl) hb23 rfl) fun a F => la F rfl (x_move (F.t 25 rfl)) fun a F => lo F rfl fun a F => lo F rfl fun a F => lo F rfl fun a F => la F rfl (x_pickF (F.t 26 rfl) rfl rfl) fun a F => la F rfl (x_assign (F.t 30 rfl)) fun a F => ?_
   refine wn (hK7 _ _ ?_)
   refine wp_ret ?_
   try simp only [Exit.then, Exit.inBlock]
   refine fin_ret F (res1 (v := .bool false) F rfl rfl) ⟨?_, H.mods⟩
   congr 2; unfold overO nameI; first | (simp [hc11, hc17, hc23]; done) | (simp [hc11, hc17, hc23]; omega) | (simp [hc11, hc17, hc23]; intros; omega) | (rw [Bool.eq_iff_iff]; simp [hc11, hc17, hc23]; first | omega | (intros; omega))
  have hc17 := hb17; try simp only [bL] at hc17
  refine los F hb17 rfl fun a F => los F hb17 rfl fun a F => los F hb17 rfl fun a F => los F hb17 rfl fun a F => la F rfl (x_pickF (F.t 17 rfl) hb17 rfl) fun a F => la F rfl (x_move (F.t 22 rfl)) fun a F => lo F rfl fun a F => la F rfl (x_pickF (F.t 23 rfl) rfl rfl) fun a F => ?_
  refine la F rfl (x_move (F.t 25 rfl)) fun a F => lo F rfl fun a F => lo F rfl fun a F => lo F rfl fun a F => la F rfl (x_pickF (F.t 26 rfl) rfl rfl) fun a F => la F rfl (x_assign (F.t 30 rfl)) fun a F => wn (hK7 _ _ ?_)
  refine wp_ret ?_
  try simp only [Exit.then, Exit.inBlock]
  refine fin_ret F (res1 (v := .bool false) F rfl rfl) ⟨?_, H.mods⟩
  congr 2; unfold overO nameI; first | (simp [hc11, hc17]; done) | (simp [hc11, hc17]; omega) | (simp [hc11, hc17]; intros; omega) | (rw [Bool.eq_iff_iff]; simp [hc11, hc17]; first | omega | (intros; omega))
 have hk11_2 := hc11; try simp only [bL] at hc11
 refine wp_region_lit ?_
 refine la F rfl (x_eql (F.t 10 rfl) rfl) fun a F => la F rfl (x_assign (F.t 13 rfl)) fun a F => wn (hK5 _ _ ?_)
 refine wp_cond_split (F.t 11 rfl) (fun hc11 => ?_) (fun hc11 => ?_)
 ·have hk11_3 := hc11; try simp only [bL] at hc11
  refine sr fun _ hK8 => la F rfl (x_faddr Tryz.underlying93 rfl ty9 (by decide) (F.t 1 rfl) rfl) fun a F => la F rfl (x_load1 ty9 (F.t 14 rfl) (blk_cell (H.at 1 rfl) 1 rfl)) fun a F => la F rfl (x_nen0 (xs := o.key) (F.t 15 rfl) (show _ = Value.string (strOfNums ([] : List Int)) by kernel_rfl)) fun a F => la F rfl (x_move (F.t 16 rfl)) fun a F => ?_
  refine split_bool F 17 rfl (fun hb17 => ?_) (fun hb17 => ?_)
  ·have hc17 := hb17; try simp only [bL] at hc17
   refine lgs F hb17 rfl (x_faddr Tryz.underlying93 rfl ty9 (by decide) (F.t 1 rfl) rfl) fun a F => lgs F hb17 rfl (x_load1 ty9 (F.t 18 rfl) (blk_cell (H.at 1 rfl) 1 rfl)) fun a F => lgs F hb17 rfl (x_len_sn (xs := o.key) Tryz.underlying9 (F.t 19 rfl)) fun a F => lgs F hb17 rfl (x_leq (F.t 20 rfl) rfl) fun a F => la F rfl (x_pickT (F.t 17 rfl) hb17 (F.t 21 rfl)) fun a F => la F rfl (x_move (F.t 22 rfl)) fun a F => ?_
   refine split_bool F 23 rfl (fun hb23 => ?_) (fun hb23 => ?_)
   ·have hc23 := hb23; try simp only [bL] at hc23
    refine lgs F hb23 rfl (x_move (F.t 3 rfl)) fun a F => la F rfl (x_pickT (F.t 23 rfl) hb23 (F.t 24 rfl)) fun a F => la F rfl (x_move (F.t 25 rfl)) fun a F => ?_
    refine split_bool F 26 rfl (fun hb26 => ?_) (fun hb26 => ?_)
    ·have hc26 := hb26; try simp only [bL] at hc26
     refine lgs F hb26 rfl (x_faddr Tryz.underlying93 rfl ty64 (by decide) (F.t 1 rfl) rfl) fun a F => lgs F hb26 rfl (x_loadn (cs := #[.string (strOfNums o.timer.name), .int .i64 o.timer.ver, .int .u64 o.timer.tick, .int .u64 o.timer.every, .slice Ao0 o.timer.steps.length co0]) ty64 (F.t 27 rfl) rfl (blk_sub (H.at 1 rfl) 6 5 rfl)) fun a F => ?_
     refine lpo ((wo F rfl).trans (by rw [hb26]; rfl)) ?_
     refine w_call F (x_enter Tryz.func118 (by kernel_rfl) rfl (by simp only [bM, F.t 28 rfl] <;> rfl)) (obare_calls (t := o.timer) _ ((H.rd 900 rfl))) rfl rfl ?_
     rintro _ w ⟨rfl, hm_⟩; refine ⟨_, rfl, ?_⟩; clear F; intro a F; have H := H.same hm_
     refine la F rfl (x_pickT (F.t 26 rfl) hb26 (F.t 29 rfl)) fun a F => la F rfl (x_assign (F.t 30 rfl)) fun a F => wn (hK8 _ _ ?_)
     refine wp_ret ?_
     try simp only [Exit.then, Exit.inBlock]
     refine fin_ret F (res1 (v := .bool (bareT o.timer)) F rfl rfl) ⟨?_, H.mods⟩
     congr 2; unfold overO nameI; first | (simp [hc11, hc11, hc17, hc23, hc26]; done) | (simp [hc11, hc11, hc17, hc23, hc26]; omega) | (simp [hc11, hc11, hc17, hc23, hc26]; intros; omega) | (rw [Bool.eq_iff_iff]; simp [hc11, hc11, hc17, hc23, hc26]; first | omega | (intros; omega))
    have hc26 := hb26; try simp only [bL] at hc26
    refine los F hb26 rfl fun a F => los F hb26 rfl fun a F => los F hb26 rfl fun a F => la F rfl (x_pickF (F.t 26 rfl) hb26 rfl) fun a F => la F rfl (x_assign (F.t 30 rfl)) fun a F => wn (hK8 _ _ ?_)
    refine wp_ret ?_
    try simp only [Exit.then, Exit.inBlock]
    refine fin_ret F (res1 (v := .bool false) F rfl rfl) ⟨?_, H.mods⟩
    congr 2; unfold overO nameI; first | (simp [hc11, hc11, hc17, hc23, hc26]; done) | (simp [hc11, hc11, hc17, hc23, hc26]; omega) | (simp [hc11, hc11, hc17, hc23, hc26]; intros; omega) | (rw [Bool.eq_iff_iff]; simp [hc11, hc11, hc17, hc23, hc26]; first | omega | (intros; omega))
   have hc23 := hb23; try simp only [bL] at hc23
   refine los F hb23 rfl fun a F => la F rfl (x_pickF (F.t 23 rfl) hb23 rfl) fun a F => la F rfl (x_move (F.t 25 rfl)) fun a F => lo F rfl fun a F => lo F rfl fun a F => lo F rfl fun a F => la F rfl (x_pickF (F.t 26 rfl) rfl rfl) fun a F => la F rfl (x_assign (F.t 30 rfl)) fun a F => ?_
   refine wn (hK8 _ _ ?_)
   refine wp_ret ?_
   try simp only [Exit.then, Exit.inBlock]
   refine fin_ret F (res1 (v := .bool false) F rfl rfl) ⟨?_, H.mods⟩
   congr 2; unfold overO nameI; first | (simp [hc11, hc11, hc17, hc23]; done) | (simp [hc11, hc11, hc17, hc23]; omega) | (simp [hc11, hc11, hc17, hc23]; intros; omega) | (rw [Bool.eq_iff_iff]; simp [hc11, hc11, hc17, hc23]; first | omega | (intros; omega))
  have hc17 := hb17; try simp only [bL] at hc17
  refine los F hb17 rfl fun a F => los F hb17 rfl fun a F => los F hb17 rfl fun a F => los F hb17 rfl fun a F => la F rfl (x_pickF (F.t 17 rfl) hb17 rfl) fun a F => la F rfl (x_move (F.t 22 rfl)) fun a F => lo F rfl fun a F => la F rfl (x_pickF (F.t 23 rfl) rfl rfl) fun a F => ?_
  refine la F rfl (x_move (F.t 25 rfl)) fun a F => lo F rfl fun a F => lo F rfl fun a F => lo F rfl fun a F => la F rfl (x_pickF (F.t 26 rfl) rfl rfl) fun a F => la F rfl (x_assign (F.t 30 rfl)) fun a F => wn (hK8 _ _ ?_)
  refine wp_ret ?_
  try simp only [Exit.then, Exit.inBlock]
  refine fin_ret F (res1 (v := .bool false) F rfl rfl) ⟨?_, H.mods⟩
  congr 2; unfold overO nameI; first | (simp [hc11, hc11, hc17]; done) | (simp [hc11, hc11, hc17]; omega) | (simp [hc11, hc11, hc17]; intros; omega) | (rw [Bool.eq_iff_iff]; simp [hc11, hc11, hc17]; first | omega | (intros; omega))
 have hk11_4 := hc11; try simp only [bL] at hc11
 refine sr fun _ hK9 => la F rfl (x_eql (F.t 10 rfl) rfl) fun a F => la F rfl (x_assign (F.t 32 rfl)) fun a F => wn (hK9 _ _ ?_)
 refine wp_cond_split (F.t 31 rfl) (fun hc31 => ?_) (fun hc31 => ?_)
 ·have hk31_5 := hc31; try simp only [bL] at hc31
  refine sr fun _ hK10 => la F rfl (x_faddr Tryz.underlying93 rfl ty9 (by decide) (F.t 1 rfl) rfl) fun a F => la F rfl (x_load1 ty9 (F.t 33 rfl) (blk_cell (H.at 1 rfl) 1 rfl)) fun a F => la F rfl (x_eqn0 (xs := o.key) (F.t 34 rfl) (show _ = Value.string (strOfNums ([] : List Int)) by kernel_rfl)) fun a F => la F rfl (x_move (F.t 35 rfl)) fun a F => ?_
  refine split_bool F 36 rfl (fun hb36 => ?_) (fun hb36 => ?_)
  ·have hc36 := hb36; try simp only [bL] at hc36
   refine lgs F hb36 rfl (x_faddr Tryz.underlying93 rfl ty64 (by decide) (F.t 1 rfl) rfl) fun a F => lgs F hb36 rfl (x_loadn (cs := #[.string (strOfNums o.timer.name), .int .i64 o.timer.ver, .int .u64 o.timer.tick, .int .u64 o.timer.every, .slice Ao0 o.timer.steps.length co0]) ty64 (F.t 37 rfl) rfl (blk_sub (H.at 1 rfl) 6 5 rfl)) fun a F => ?_
   refine lpo ((wo F rfl).trans (by rw [hb36]; rfl)) ?_
   refine w_call F (x_enter Tryz.func118 (by kernel_rfl) rfl (by simp only [bM, F.t 38 rfl] <;> rfl)) (obare_calls (t := o.timer) _ ((H.rd 900 rfl))) rfl rfl ?_
   rintro _ w ⟨rfl, hm_⟩; refine ⟨_, rfl, ?_⟩; clear F; intro a F; have H := H.same hm_
   refine la F rfl (x_pickT (F.t 36 rfl) hb36 (F.t 39 rfl)) fun a F => la F rfl (x_move (F.t 40 rfl)) fun a F => ?_
   refine split_bool F 41 rfl (fun hb41 => ?_) (fun hb41 => ?_)
   ·have hc41 := hb41; try simp only [bL] at hc41
    refine lgs F hb41 rfl (x_faddr Tryz.underlying93 rfl ty91 (by decide) (F.t 1 rfl) rfl) fun a F => lgs F hb41 rfl (x_loadn (cs := #[.int .i64 o.step.1, .string (strOfNums o.step.2.1), .string (strOfNums o.step.2.2.1), .int .i64 o.step.2.2.2]) ty91 (F.t 42 rfl) rfl (blk_sub (H.at 1 rfl) 2 4 rfl)) fun a F => ?_
    refine lpo ((wo F rfl).trans (by rw [hb41]; rfl)) ?_
    refine w_call F (x_enter Tryz.func98 (by kernel_rfl) rfl (by simp only [bM, F.t 43 rfl] <;> rfl)) (right_calls _ o.step) rfl rfl ?_
    rintro _ w ⟨rfl, hm_⟩; refine ⟨_, rfl, ?_⟩; clear F; intro a F; have H := H.same hm_
    refine la F rfl (x_pickT (F.t 41 rfl) hb41 (F.t 44 rfl)) fun a F => la F rfl (x_assign (F.t 45 rfl)) fun a F => wn (hK10 _ _ ?_)
    refine wp_ret ?_
    try simp only [Exit.then, Exit.inBlock]
    refine fin_ret F (res1 (v := .bool (rightS o.step)) F rfl rfl) ⟨?_, H.mods⟩
    congr 2; unfold overO nameI; first | (simp [hc11, hc11, hc31, hc36, hc41]; done) | (simp [hc11, hc11, hc31, hc36, hc41]; omega) | (simp [hc11, hc11, hc31, hc36, hc41]; intros; omega) | (rw [Bool.eq_iff_iff]; simp [hc11, hc11, hc31, hc36, hc41]; first | omega | (intros; omega))
   have hc41 := hb41; try simp only [bL] at hc41
   refine los F hb41 rfl fun a F => los F hb41 rfl fun a F => los F hb41 rfl fun a F => la F rfl (x_pickF (F.t 41 rfl) hb41 rfl) fun a F => la F rfl (x_assign (F.t 45 rfl)) fun a F => wn (hK10 _ _ ?_)
   refine wp_ret ?_
   try simp only [Exit.then, Exit.inBlock]
   refine fin_ret F (res1 (v := .bool false) F rfl rfl) ⟨?_, H.mods⟩
   congr 2; unfold overO nameI; first | (simp [hc11, hc11, hc31, hc36, hc41]; done) | (simp [hc11, hc11, hc31, hc36, hc41]; omega) | (simp [hc11, hc11, hc31, hc36, hc41]; intros; omega) | (rw [Bool.eq_iff_iff]; simp [hc11, hc11, hc31, hc36, hc41]; first | omega | (intros; omega))
  have hc36 := hb36; try simp only [bL] at hc36
  refine los F hb36 rfl fun a F => los F hb36 rfl fun a F => los F hb36 rfl fun a F => la F rfl (x_pickF (F.t 36 rfl) hb36 rfl) fun a F => la F rfl (x_move (F.t 40 rfl)) fun a F => lo F rfl fun a F => lo F rfl fun a F => lo F rfl fun a F => ?_
  refine la F rfl (x_pickF (F.t 41 rfl) rfl rfl) fun a F => la F rfl (x_assign (F.t 45 rfl)) fun a F => wn (hK10 _ _ ?_)
  refine wp_ret ?_
  try simp only [Exit.then, Exit.inBlock]
  refine fin_ret F (res1 (v := .bool false) F rfl rfl) ⟨?_, H.mods⟩
  congr 2; unfold overO nameI; first | (simp [hc11, hc11, hc31, hc36]; done) | (simp [hc11, hc11, hc31, hc36]; omega) | (simp [hc11, hc11, hc31, hc36]; intros; omega) | (rw [Bool.eq_iff_iff]; simp [hc11, hc11, hc31, hc36]; first | omega | (intros; omega))
 have hk31_6 := hc31; try simp only [bL] at hc31
 refine sr fun _ hK11 => la F rfl (x_eql (F.t 10 rfl) rfl) fun a F => la F rfl (x_assign (F.t 47 rfl)) fun a F => wn (hK11 _ _ ?_)
 refine wp_cond_split (F.t 46 rfl) (fun hc46 => ?_) (fun hc46 => ?_)
 ·have hk46_7 := hc46; try simp only [bL] at hc46
  refine sr fun _ hK12 => la F rfl (x_faddr Tryz.underlying93 rfl ty64 (by decide) (F.t 1 rfl) rfl) fun a F => la F rfl (x_loadn (cs := #[.string (strOfNums o.timer.name), .int .i64 o.timer.ver, .int .u64 o.timer.tick, .int .u64 o.timer.every, .slice Ao0 o.timer.steps.length co0]) ty64 (F.t 48 rfl) rfl (blk_sub (H.at 1 rfl) 6 5 rfl)) fun a F => ?_
  refine lp rfl ?_
  refine w_alloc 4 F H rfl ty64 ?_
  clear F H; intro a w b4 F H
  refine lp rfl ?_
  refine w_storeA 4 H ty64 rfl (F.t 4 rfl) (F.t 49 rfl) rfl (by simp [Value.cells, Value.oneCell']) rfl ?_
  clear H; intro w H
  refine wn (hK12 _ _ (sr fun _ hK13 => la F rfl (x_faddr Tryz.underlying64 rfl ty3 (by decide) (F.t 4 rfl) rfl) fun a F => la F rfl (x_load1 ty3 (F.t 50 rfl) (blk_cell (H.at 4 rfl) 1 rfl)) fun a F => la F rfl (x_add (F.t 51 rfl) rfl rfl) fun a F => la F rfl (x_faddr Tryz.underlying64 rfl ty3 (by decide) (F.t 4 rfl) rfl) fun a F => ?_))
  refine lp rfl ?_
  refine w_store 4 H ty3 rfl (F.t 53 rfl) (F.t 52 rfl) rfl (one1 rfl rfl) (by first | decide | exact Nat.le_of_ble_eq_true rfl) ?_
  clear H; intro w H
  refine wn (hK13 _ _ (sr fun _ hK14 => la F rfl (x_faddr Tryz.underlying93 rfl ty9 (by decide) (F.t 1 rfl) rfl) fun a F => la F rfl (x_load1 ty9 (F.t 54 rfl) (blk_cell (H.at 1 rfl) 1 rfl)) fun a F => la F rfl (x_eqn0 (xs := o.key) (F.t 55 rfl) (show _ = Value.string (strOfNums ([] : List Int)) by kernel_rfl)) fun a F => la F rfl (x_move (F.t 56 rfl)) fun a F => ?_))
  refine split_bool F 57 rfl (fun hb57 => ?_) (fun hb57 => ?_)
  ·have hc57 := hb57; try simp only [bL] at hc57
   refine lgs F hb57 rfl (x_move (F.t 3 rfl)) fun a F => la F rfl (x_pickT (F.t 57 rfl) hb57 (F.t 58 rfl)) fun a F => la F rfl (x_move (F.t 59 rfl)) fun a F => ?_
   refine split_bool F 60 rfl (fun hb60 => ?_) (fun hb60 => ?_)
   ·have hc60 := hb60; try simp only [bL] at hc60
    refine lgs F hb60 rfl (x_faddr Tryz.underlying64 rfl ty3 (by decide) (F.t 4 rfl) rfl) fun a F => lgs F hb60 rfl (x_load1 ty3 (F.t 61 rfl) (blk_cell (H.at 4 rfl) 1 rfl)) fun a F => lgs F hb60 rfl (x_eql (F.t 62 rfl) rfl) fun a F => la F rfl (x_pickT (F.t 60 rfl) hb60 (F.t 63 rfl)) fun a F => la F rfl (x_move (F.t 64 rfl)) fun a F => ?_
    refine split_bool F 65 rfl (fun hb65 => ?_) (fun hb65 => ?_)
    ·have hc65 := hb65; try simp only [bL] at hc65
     refine lgs F hb65 rfl (x_loadn ty64 (F.t 4 rfl) rfl (blk_whole (H.at 4 rfl))) fun a F => ?_
     refine lpo ((wo F rfl).trans (by rw [hb65]; rfl)) ?_
     refine w_call F (x_enter Tryz.func84 (by kernel_rfl) rfl (by simp only [bM, F.t 66 rfl] <;> rfl)) (rightT_calls (t := verUp o.timer) _ (H.holds 990 _ rfl) ((H.rd 900 rfl)) (verUp_B hb.timer)) rfl rfl ?_
     rintro _ w ⟨rfl, hm_⟩; refine ⟨_, rfl, ?_⟩; clear F; intro a F; have H := H.same hm_
     refine la F rfl (x_pickT (F.t 65 rfl) hb65 (F.t 67 rfl)) fun a F => la F rfl (x_assign (F.t 68 rfl)) fun a F => wn (hK14 _ _ ?_)
     refine wp_ret ?_
     try simp only [Exit.then, Exit.inBlock]
     refine fin_ret F (res1 (v := .bool (rightT (verUp o.timer))) F rfl rfl) ⟨?_, H.mods⟩
     congr 2; unfold overO nameI; first | (simp [hc11, hc11, hc31, hc46, hc57, hc60, hc65]; done) | (simp [hc11, hc11, hc31, hc46, hc57, hc60, hc65]; omega) | (simp [hc11, hc11, hc31, hc46, hc57, hc60, hc65]; intros; omega) | (rw [Bool.eq_iff_iff]; simp [hc11, hc11, hc31, hc46, hc57, hc60, hc65]; first | omega | (intros; omega))
    have hc65 := hb65; try simp only [bL] at hc65
    refine los F hb65 rfl fun a F => los F hb65 rfl fun a F => la F rfl (x_pickF (F.t 65 rfl) hb65 rfl) fun a F => la F rfl (x_assign (F.t 68 rfl)) fun a F => wn (hK14 _ _ ?_)
    refine wp_ret ?_
    try simp only [Exit.then, Exit.inBlock]
    refine fin_ret F (res1 (v := .bool false) F rfl rfl) ⟨?_, H.mods⟩
    congr 2; unfold overO nameI; first | (simp [hc11, hc11, hc31, hc46, hc57, hc60, hc65]; done) | (simp [hc11, hc11, hc31, hc46, hc57, hc60, hc65]; omega) | (simp [hc11, hc11, hc31, hc46, hc57, hc60, hc65]; intros; omega) | (rw [Bool.eq_iff_iff]; simp [hc11, hc11, hc31, hc46, hc57, hc60, hc65]; first | omega | (intros; omega))
   have hc60 := hb60; try simp only [bL] at hc60
   refine los F hb60 rfl fun a F => los F hb60 rfl fun a F => los F hb60 rfl fun a F => la F rfl (x_pickF (F.t 60 rfl) hb60 rfl) fun a F => la F rfl (x_move (F.t 64 rfl)) fun a F => lo F rfl fun a F => lo F rfl fun a F => la F rfl (x_pickF (F.t 65 rfl) rfl rfl) fun a F => ?_
   refine la F rfl (x_assign (F.t 68 rfl)) fun a F => wn (hK14 _ _ ?_)
   refine wp_ret ?_
   try simp only [Exit.then, Exit.inBlock]
   refine fin_ret F (res1 (v := .bool false) F rfl rfl) ⟨?_, H.mods⟩
   congr 2; unfold overO nameI; first | (simp [hc11, hc11, hc31, hc46, hc57, hc60]; done) | (simp [hc11, hc11, hc31, hc46, hc57, hc60]; omega) | (simp [hc11, hc11, hc31, hc46, hc57, hc60]; intros; omega) | (rw [Bool.eq_iff_iff]; simp [hc11, hc11, hc31, hc46, hc57, hc60]; first | omega | (intros; omega))
  have hc57 := hb57; try simp only [bL] at hc57
  refine los F hb57 rfl fun a F => la F rfl (x_pickF (F.t 57 rfl) hb57 rfl) fun a F => la F rfl (x_move (F.t 59 rfl)) fun a F => lo F rfl fun a F => lo F rfl fun a F => lo F rfl fun a F => la F rfl (x_pickF (F.t 60 rfl) rfl rfl) fun a F => la F rfl (x_move (F.t 64 rfl)) fun a F => ?_
  refine lo F rfl fun a F => lo F rfl fun a F => la F rfl (x_pickF (F.t 65 rfl) rfl rfl) fun a F => la F rfl (x_assign (F.t 68 rfl)) fun a F => wn (hK14 _ _ ?_)
  refine wp_ret ?_
  try simp only [Exit.then, Exit.inBlock]
  refine fin_ret F (res1 (v := .bool false) F rfl rfl) ⟨?_, H.mods⟩
  congr 2; unfold overO nameI; first | (simp [hc11, hc11, hc31, hc46, hc57]; done) | (simp [hc11, hc11, hc31, hc46, hc57]; omega) | (simp [hc11, hc11, hc31, hc46, hc57]; intros; omega) | (rw [Bool.eq_iff_iff]; simp [hc11, hc11, hc31, hc46, hc57]; first | omega | (intros; omega))
 have hk46_8 := hc46; try simp only [bL] at hc46
 refine wp_skip (hK3 _ _ (sr fun _ hK15 => la F rfl (x_assign rfl) fun a F => wn (hK15 _ _ ?_)))
 refine wp_ret ?_
 try simp only [Exit.then, Exit.inBlock]
 refine fin_ret F (res1 (v := .bool false) F rfl rfl) ⟨?_, H.mods⟩
 congr 2; unfold overO nameI; first | (simp [hc11, hc11, hc31, hc46]; done) | (simp [hc11, hc11, hc31, hc46]; omega) | (simp [hc11, hc11, hc31, hc46]; intros; omega) | (rw [Bool.eq_iff_iff]; simp [hc11, hc11, hc31, hc46]; first | omega | (intros; omega))
theorem lock_calls (w0 : World) {pp : Bool} (hL : LibAt pp w0) {o : OpD} {oko0 : Nat → Prop} {Ao0 : Option Addr} {co0 : Nat} (hro0 : Rd StE w0 oko0 Ao0 o.timer.steps co0) (hb : OpB o) : Calls Tryz.prog 92 #[.agg #[.int .i64 o.kind, .string (strOfNums o.key), .int .i64 o.step.1, .string (strOfNums o.step.2.1), .string (strOfNums o.step.2.2.1), .int .i64 o.step.2.2.2, .string (strOfNums o.timer.name), .int .i64 o.timer.ver, .int .u64 o.timer.tick, .int .u64 o.timer.every, .slice Ao0 o.timer.steps.length co0]] w0 fun e w' => e = .returned (.tuple #[.string (strOfNums (lockT o)), .bool (lockW o)]) ∧ Mods (fun _ => False) w0 w' := by
 refine cow Tryz.func92 rfl Tryz.ntmps92 (Nat.le_of_ble_eq_true rfl) fun a F => ?_
 have H := Hp.nil (fun _ => False) w0
 have H := H.arg 900 hro0.all (fun _ h => ⟨h, fun h => h⟩)
 have hleo0 := hro0.le; unfold maxLen at hleo0
 have H := H.libN 990 hL
 refine sr fun _ hK1 => ?_
 refine lp rfl ?_
 refine w_box 1 F H rfl (F.t 0 rfl) ?_
 clear F H; intro a w b1 F H
 refine la F rfl (x_assign (show _ = Value.string (strOfNums ([] : List Int)) by kernel_rfl)) fun a F => la F rfl (x_assign rfl) fun a F => wn (hK1 _ _ ?_)
 refine wp_seq_k fun _ hK2 => ?_
 refine sr fun _ hK3 => la F rfl (x_loadn ty93 (F.t 1 rfl) rfl (blk_whole (H.at 1 rfl))) fun a F => ?_
 refine lp rfl ?_
 refine w_call F (x_enter Tryz.func109 (by kernel_rfl) rfl (by simp only [bM, F.t 4 rfl] <;> rfl)) (overO_calls (o := o) _ (H.holds 990 _ rfl) ((H.rd 900 rfl)) hb) rfl rfl ?_
 rintro _ w ⟨rfl, hm_⟩; refine ⟨_, rfl, ?_⟩; clear F; intro a F; have H := H.same hm_
 refine la F rfl (x_not (F.t 5 rfl)) fun a F => wn (hK3 _ _ ?_)
 refine wp_cond_split (F.t 6 rfl) (fun hc6 => ?_) (fun hc6 => ?_)
 ·have hk6_1 := hc6; try simp only [bL] at hc6
  refine sr fun _ hK4 => la F rfl (x_assign (show _ = Value.string (strOfNums ([] : List Int)) by kernel_rfl)) fun a F => la F rfl (x_assign rfl) fun a F => wn (hK4 _ _ ?_)
  refine wp_ret ?_
  try simp only [Exit.then, Exit.inBlock]
  have hv : ([] : List Int) = lockT o := by unfold lockT; simp [hc6]
  have hu : false = lockW o := by unfold lockW; simp [hc6]
  exact fin_ret F (res2 F rfl rfl rfl) ⟨by rw [← hv, ← hu] <;> rfl, H.mods⟩
 have hk6_2 := hc6; try simp only [bL] at hc6
 have ho : overO o = true := by simpa using hc6
 have hol := over_lens hb ho
 refine wp_skip (hK2 _ _ ?_)
 refine wp_seq_k fun _ hK5 => ?_
 refine sr fun _ hK6 => la F rfl (x_faddr Tryz.underlying93 rfl ty88 (by decide) (F.t 1 rfl) rfl) fun a F => la F rfl (x_load1 ty88 (F.t 7 rfl) (blk_cell (H.at 1 rfl) 0 rfl)) fun a F => wn (hK6 _ _ (wp_block (sr fun _ hK7 => la F rfl (x_eql (F.t 8 rfl) rfl) fun a F => la F rfl (x_assign (F.t 10 rfl)) fun a F => ?_)))
 refine wn (hK7 _ _ ?_)
 refine wp_cond_split (F.t 9 rfl) (fun hc9 => ?_) (fun hc9 => ?_)
 ·have hk9_3 := hc9; try simp only [bL] at hc9
  refine sr fun _ hK8 => la F rfl (x_faddr Tryz.underlying93 rfl ty9 (by decide) (F.t 1 rfl) rfl) fun a F => la F rfl (x_load1 ty9 (F.t 11 rfl) (blk_cell (H.at 1 rfl) 1 rfl)) fun a F => la F rfl (x_adds (xs := ([107] : List Int)) (ys := o.key) (show _ = Value.string (strOfNums ([107] : List Int)) by kernel_rfl) (F.t 12 rfl) (by simp only [lN]; omega)) fun a F => la F rfl (x_assign (F.t 13 rfl)) fun a F => la F rfl (x_assign rfl) fun a F => wn (hK8 _ _ ?_)
  refine wp_ret ?_
  try simp only [Exit.then, Exit.inBlock]
  have hv : (([107] : List Int) ++ o.key) = lockT o := by unfold lockT; simp [hc6, hc9]
  have hu : false = lockW o := by unfold lockW; simp [hc6, hc9]
  exact fin_ret F (res2 F rfl rfl rfl) ⟨by rw [← hv, ← hu] <;> rfl, H.mods⟩
 have hk9_4 := hc9; try simp only [bL] at hc9
 refine sr fun _ hK9 => la F rfl (x_eql (F.t 8 rfl) rfl) fun a F => la F rfl (x_assign (F.t 15 rfl)) fun a F => wn (hK9 _ _ ?_)
 refine wp_cond_split (F.t 14 rfl) (fun hc14 => ?_) (fun hc14 => ?_)
 ·have hk14_5 := hc14; try simp only [bL] at hc14
  refine sr fun _ hK10 => la F rfl (x_faddr Tryz.underlying93 rfl ty9 (by decide) (F.t 1 rfl) rfl) fun a F => la F rfl (x_load1 ty9 (F.t 16 rfl) (blk_cell (H.at 1 rfl) 1 rfl)) fun a F => la F rfl (x_adds (xs := ([116] : List Int)) (ys := o.key) (show _ = Value.string (strOfNums ([116] : List Int)) by kernel_rfl) (F.t 17 rfl) (by simp only [lN]; omega)) fun a F => la F rfl (x_assign (F.t 18 rfl)) fun a F => la F rfl (x_assign rfl) fun a F => wn (hK10 _ _ ?_)
  refine wp_ret ?_
  try simp only [Exit.then, Exit.inBlock]
  have hv : (([116] : List Int) ++ o.key) = lockT o := by unfold lockT; simp [hc6, hc9, hc14]
  have hu : false = lockW o := by unfold lockW; simp [hc6, hc9, hc14]
  exact fin_ret F (res2 F rfl rfl rfl) ⟨by rw [← hv, ← hu] <;> rfl, H.mods⟩
 have hk14_6 := hc14; try simp only [bL] at hc14
 refine sr fun _ hK11 => la F rfl (x_eql (F.t 8 rfl) rfl) fun a F => la F rfl (x_assign (F.t 20 rfl)) fun a F => wn (hK11 _ _ ?_)
 refine wp_cond_split (F.t 19 rfl) (fun hc19 => ?_) (fun hc19 => ?_)
 ·have hk19_7 := hc19; try simp only [bL] at hc19
  refine sr fun _ hK12 => la F rfl (x_faddr Tryz.underlying93 rfl ty64 (by decide) (F.t 1 rfl) rfl) fun a F => la F rfl (x_faddr Tryz.underlying64 rfl ty9 (by decide) (F.t 21 rfl) rfl) fun a F => la F rfl (x_load1 ty9 (F.t 22 rfl) (blk_cell (H.at 1 rfl) 6 rfl)) fun a F => la F rfl (x_adds (xs := ([116] : List Int)) (ys := o.timer.name) (show _ = Value.string (strOfNums ([116] : List Int)) by kernel_rfl) (F.t 23 rfl) (by simp only [lN]; omega)) fun a F => la F rfl (x_assign (F.t 24 rfl)) fun a F => la F rfl (x_assign rfl) fun a F => wn (hK12 _ _ ?_)
  refine wp_ret ?_
  try simp only [Exit.then, Exit.inBlock]
  have hv : (([116] : List Int) ++ o.timer.name) = lockT o := by unfold lockT; simp [hc6, hc9, hc14, hc19]
  have hu : true = lockW o := by unfold lockW; simp [hc6, hc9, hc14, hc19]
  exact fin_ret F (res2 F rfl rfl rfl) ⟨by rw [← hv, ← hu] <;> rfl, H.mods⟩
 have hk19_8 := hc19; try simp only [bL] at hc19
 refine wp_skip (hK5 _ _ ?_)
 refine wp_seq_k fun _ hK13 => ?_
 refine sr fun _ hK14 => la F rfl (x_faddr Tryz.underlying93 rfl ty91 (by decide) (F.t 1 rfl) rfl) fun a F => la F rfl (x_faddr Tryz.underlying91 rfl ty89 (by decide) (F.t 25 rfl) rfl) fun a F => la F rfl (x_load1 ty89 (F.t 26 rfl) (blk_cell (H.at 1 rfl) 2 rfl)) fun a F => la F rfl (x_eql (F.t 27 rfl) rfl) fun a F => wn (hK14 _ _ ?_)
 refine wp_cond_split (F.t 28 rfl) (fun hc28 => ?_) (fun hc28 => ?_)
 ·have hk28_9 := hc28; try simp only [bL] at hc28
  refine sr fun _ hK15 => la F rfl (x_faddr Tryz.underlying93 rfl ty91 (by decide) (F.t 1 rfl) rfl) fun a F => la F rfl (x_faddr Tryz.underlying91 rfl ty9 (by decide) (F.t 29 rfl) rfl) fun a F => la F rfl (x_load1 ty9 (F.t 30 rfl) (blk_cell (H.at 1 rfl) 3 rfl)) fun a F => la F rfl (x_adds (xs := ([116] : List Int)) (ys := o.step.2.1) (show _ = Value.string (strOfNums ([116] : List Int)) by kernel_rfl) (F.t 31 rfl) (by simp only [lN]; omega)) fun a F => la F rfl (x_assign (F.t 32 rfl)) fun a F => la F rfl (x_assign rfl) fun a F => wn (hK15 _ _ ?_)
  refine wp_ret ?_
  try simp only [Exit.then, Exit.inBlock]
  have hv : (([116] : List Int) ++ o.step.2.1) = lockT o := by unfold lockT; simp [hc6, hc9, hc14, hc19, hc28]
  have hu : true = lockW o := by unfold lockW; simp [hc6, hc9, hc14, hc19, hc28]
  exact fin_ret F (res2 F rfl rfl rfl) ⟨by rw [← hv, ← hu] <;> rfl, H.mods⟩
 have hk28_10 := hc28; try simp only [bL] at hc28
 refine wp_skip (hK13 _ _ (sr fun _ hK16 => la F rfl (x_faddr Tryz.underlying93 rfl ty91 (by decide) (F.t 1 rfl) rfl) fun a F => la F rfl (x_faddr Tryz.underlying91 rfl ty9 (by decide) (F.t 33 rfl) rfl) fun a F => la F rfl (x_load1 ty9 (F.t 34 rfl) (blk_cell (H.at 1 rfl) 3 rfl)) fun a F => la F rfl (x_adds (xs := ([107] : List Int)) (ys := o.step.2.1) (show _ = Value.string (strOfNums ([107] : List Int)) by kernel_rfl) (F.t 35 rfl) (by simp only [lN]; omega)) fun a F => la F rfl (x_assign (F.t 36 rfl)) fun a F => ?_))
 refine la F rfl (x_assign rfl) fun a F => wn (hK16 _ _ ?_)
 refine wp_ret ?_
 try simp only [Exit.then, Exit.inBlock]
 have hv : (([107] : List Int) ++ o.step.2.1) = lockT o := by unfold lockT; simp [hc6, hc9, hc14, hc19, hc28]
 have hu : true = lockW o := by unfold lockW; simp [hc6, hc9, hc14, hc19, hc28]
 exact fin_ret F (res2 F rfl rfl rfl) ⟨by rw [← hv, ← hu] <;> rfl, H.mods⟩
theorem ours_calls (w0 : World) {xs : List Int} (hb : Byte xs) (hl : 1 ≤ xs.length) : Calls Tryz.prog 93 #[.string (strOfNums xs)] w0 fun e w' => e = .returned (.bool (oursI xs)) ∧ Mods (fun _ => False) w0 w' := by
 refine cow Tryz.func93 rfl Tryz.ntmps93 (Nat.le_of_ble_eq_true rfl) fun a F => ?_
 have H := Hp.nil (fun _ => False) w0
 refine sr fun _ hK1 => la F rfl (x_assign rfl) fun a F => wn (hK1 _ _ (sr fun _ hK2 => la F rfl (x_move (F.t 0 rfl)) fun a F => la F rfl (x_sliceS (xs := xs) Tryz.underlying9 (F.t 3 rfl) rfl (by omega) (by omega)) fun a F => la F rfl (x_eqn (xs := (xs.take (Int.toNat 1))) (ys := ([64] : List Int)) (F.t 4 rfl) (show _ = Value.string (strOfNums ([64] : List Int)) by kernel_rfl) (hb.take _) (byte_c [64] (by decide))) fun a F => la F rfl (x_assign (F.t 5 rfl)) fun a F => ?_))
 refine wn (hK2 _ _ ?_)
 refine wp_ret ?_
 try simp only [Exit.then, Exit.inBlock]
 exact fin_ret F (res1 F rfl rfl) ⟨rfl, H.mods⟩
theorem wrong1_calls (w0 : World) (s : StepD) (hb : StepB s) (hl : 1 ≤ s.2.1.length) : Calls Tryz.prog 95 #[.agg #[.int .i64 s.1, .string (strOfNums s.2.1), .string (strOfNums s.2.2.1), .int .i64 s.2.2.2]] w0 fun e w' => e = .returned (.bool (oursI s.2.1)) ∧ Mods (fun _ => False) w0 w' := by
 refine cow Tryz.func95 rfl Tryz.ntmps95 (Nat.le_of_ble_eq_true rfl) fun a F => ?_
 have H := Hp.nil (fun _ => False) w0
 refine sr fun _ hK1 => ?_
 refine lp rfl ?_
 refine w_box 1 F H rfl (F.t 0 rfl) ?_
 clear F H; intro a w b1 F H
 refine la F rfl (x_assign rfl) fun a F => wn (hK1 _ _ (sr fun _ hK2 => la F rfl (x_faddr Tryz.underlying91 rfl ty9 (by decide) (F.t 1 rfl) rfl) fun a F => la F rfl (x_load1 ty9 (F.t 3 rfl) (blk_cell (H.at 1 rfl) 1 rfl)) fun a F => ?_))
 refine lp rfl ?_
 refine w_call F (x_enter Tryz.func93 (by kernel_rfl) rfl (by simp only [bM, F.t 4 rfl] <;> rfl)) (ours_calls (xs := s.2.1) _ hb.1 hl) rfl rfl ?_
 rintro _ w ⟨rfl, hm_⟩; refine ⟨_, rfl, ?_⟩; clear F; intro a F; have H := H.same hm_
 refine la F rfl (x_assign (F.t 5 rfl)) fun a F => wn (hK2 _ _ ?_)
 refine wp_ret ?_
 try simp only [Exit.then, Exit.inBlock]
 exact fin_ret F (res1 F rfl rfl) ⟨rfl, H.mods⟩
theorem indexS_calls (w0 : World) {ok : Nat → Prop} {A : Option Addr} {xs : List StepD} {c : Nat} (hr : Rd StE w0 ok A xs c) (hbs : ∀ s ∈ xs, StepB s ∧ 1 ≤ s.2.1.length) : Calls Tryz.prog 110 #[.slice A xs.length c, .func (.func 95) #[] #[]] w0 fun e w' => ∃ i, e = .returned (.int .i64 i) ∧ decide ((0 : Int) ≤ i) = xs.any (fun s : StepD => oursI s.2.1) ∧ Mods (fun _ => False) w0 w' := by
 refine cow Tryz.func110 rfl Tryz.ntmps110 (Nat.le_of_ble_eq_true rfl) fun a F => ?_
 have H := Hp.nil (fun _ => False) w0
 have H := H.arg 901 hr.all (fun _ h => ⟨h, fun h => h⟩)
 have hle901 := hr.le; unfold maxLen at hle901
 refine sr fun _ hK1 => la F rfl (x_assign rfl) fun a F => wn (hK1 _ _ ?_)
 refine wp_seq_k fun _ hK2 => ?_
 refine sr fun _ hK3 => la F rfl (x_move (F.t 0 rfl)) fun a F => la F rfl (x_len_slice Tryz.underlying62 (F.t 6 rfl)) fun a F => la F rfl (x_move rfl) fun a F => wn (hK3 _ _ (wp_block ?_))
 refine wp_loop_ghost (fun n_ a w => ∃ k : Nat, n_ = xs.length - k ∧ (k ≤ xs.length) ∧ ((xs.take k).any (fun s : StepD => oursI s.2.1) = false) ∧ Fr 19 a [(0, .slice A xs.length c), (1, .func (.func 95) #[] #[]), (7, .int .i64 (xs.length : Int)), (8, .int .i64 (k : Int))] ∧ Hp (fun _ => False) w0 w [(901, .rd_ StE A xs c (fun k => k < w0.heap.size))]) (xs.length) ?_ ?_
 ·exact ⟨0, rfl, by omega, rfl, ((((F.bare.add F 8 rfl).add F 7 rfl).add F 1 rfl).add F 0 rfl), H.sub _ (sub_cons (sub_nil _) 901 rfl)⟩
 rintro _ a w ⟨k, rfl, hq0_0, hq0_1, F, H⟩
 refine sr fun _ hK4 => la F rfl (x_lss (F.t 8 rfl) (F.t 7 rfl)) fun a F => wn (hK4 _ _ ?_)
 refine wp_seq_k fun _ hK5 => ?_
 refine wp_cond_split (F.t 9 rfl) (fun hc9 => ?_) (fun hc9 => ?_)
 ·have hk9_1 := hc9; try simp only [bL] at hc9
  refine wp_skip (hK5 _ _ ?_)
  refine wp_seq_k fun _ hK6 => ?_
  refine wp_block (sr fun _ hK7 => la F rfl (x_move (F.t 8 rfl)) fun a F => la F rfl (x_assign (F.t 10 rfl)) fun a F => wn (hK7 _ _ (sr fun _ hK8 => ?_)))
  obtain ⟨hf1_0, hf1_1, hf1_2, hf1_3, hfw1⟩ := rd_st ((H.rd 901 rfl)) (gst_some (xs := xs) (i := (k : Int)) (by omega) (by omega))
  have H := H.subcels 901 rfl 1499 hfw1 (Rd.inok ((H.rd 901 rfl)) (by omega) _)
  have H := H.subcel 901 rfl 1500 hf1_0 (Rd.inok ((H.rd 901 rfl)) (by omega) _)
  have H := H.subcel 901 rfl 1501 hf1_1 (Rd.inok ((H.rd 901 rfl)) (by omega) _)
  have H := H.subcel 901 rfl 1502 hf1_2 (Rd.inok ((H.rd 901 rfl)) (by omega) _)
  have H := H.subcel 901 rfl 1503 hf1_3 (Rd.inok ((H.rd 901 rfl)) (by omega) _)
  refine la F rfl (x_move (F.t 1 rfl)) fun a F => la F rfl (x_move (F.t 0 rfl)) fun a F => la F rfl (x_move (F.t 5 rfl)) fun a F => la F rfl (x_iaddr_A Tryz.underlying62 ty91 ((H.rd 901 rfl)) (F.t 12 rfl) (F.t 13 rfl) (by omega) (by omega) _) fun a F => la F rfl (x_loadn ty91 (F.t 14 rfl) rfl (H.holds 1499 _ rfl)) fun a F => ?_
  refine lp rfl ?_
  refine w_call F (x_enterC (vs := #[.agg #[.int .i64 (gst xs (k : Int)).1, .string (strOfNums (gst xs (k : Int)).2.1), .string (strOfNums (gst xs (k : Int)).2.2.1), .int .i64 (gst xs (k : Int)).2.2.2]]) (caps := #[]) (args := #[.agg #[.int .i64 (gst xs (k : Int)).1, .string (strOfNums (gst xs (k : Int)).2.1), .string (strOfNums (gst xs (k : Int)).2.2.1), .int .i64 (gst xs (k : Int)).2.2.2]]) Tryz.func95 (by kernel_rfl) rfl (F.t 11 rfl) (by simp only [bM, F.t 15 rfl] <;> rfl) rfl) (wrong1_calls _ (gst xs (k : Int)) (hbs _ (gst_mem (xs := xs) (j := k) (by omega))).1 (hbs _ (gst_mem (xs := xs) (j := k) (by omega))).2) rfl rfl ?_
  rintro _ w ⟨rfl, hm_⟩; refine ⟨_, rfl, ?_⟩; clear F; intro a F; have H := H.same hm_
  refine wn (hK8 _ _ ?_)
  refine wp_cond_split (F.t 16 rfl) (fun hc16 => ?_) (fun hc16 => ?_)
  ·have hk16_2 := hc16; try simp only [bL] at hc16
   have hz : decide ((0 : Int) ≤ (k : Int)) = xs.any (fun s : StepD => oursI s.2.1) := by rw [decide_eq_true (by omega), any_hit (p := (fun s : StepD => oursI s.2.1)) (gst_some (xs := xs) (i := (k : Int)) (by omega) (by omega)) hc16]
   refine sr fun _ hK9 => la F rfl (x_move (F.t 5 rfl)) fun a F => la F rfl (x_assign (F.t 17 rfl)) fun a F => wn (hK9 _ _ ?_)
   refine wp_ret ?_
   try simp only [Exit.then, Exit.inBlock]
   exact fin_ret F (res1 F rfl rfl) ⟨_, rfl, hz, H.mods⟩
  have hk16_3 := hc16; try simp only [bL] at hc16
  have hno : (fun s : StepD => oursI s.2.1) (gst xs (k : Int)) = false := by first | exact hk16_2 | simpa using hc16
  refine wp_skip (hK6 _ _ ?_)
  refine wp_region_lit ?_
  refine la F rfl (x_add (F.t 8 rfl) rfl (w64 (by omega) (by omega))) fun a F => la F rfl (x_move (F.t 18 rfl)) fun a F => ?_
  refine wpList_nil ?_
  exact ⟨_, by omega, ⟨k + 1, rfl, by omega, any_take (gst_some (xs := xs) (i := (k : Int)) (by omega) (by omega)) hq0_1 hno, ((((F.bare.add F 8 rfl).add F 7 rfl).add F 1 rfl).add F 0 rfl), H.sub _ (sub_cons (sub_nil _) 901 rfl)⟩⟩
 have hk9_4 := hc9; try simp only [bL] at hc9
 obtain rfl : k = xs.length := by omega
 rw [List.take_length] at hq0_1
 have hz : decide ((0 : Int) ≤ -1) = xs.any (fun s : StepD => oursI s.2.1) := by rw [hq0_1]; rfl
 refine wp_exit ?_
 refine hK2 _ _ (sr fun _ hK10 => la F rfl (x_assign rfl) fun a F => wn (hK10 _ _ ?_))
 refine wp_ret ?_
 try simp only [Exit.then, Exit.inBlock]
 exact fin_ret F (res1 F rfl rfl) ⟨_, rfl, hz, H.mods⟩
theorem containsS_calls (w0 : World) {ok : Nat → Prop} {A : Option Addr} {xs : List StepD} {c : Nat} (hr : Rd StE w0 ok A xs c) (hbs : ∀ s ∈ xs, StepB s ∧ 1 ≤ s.2.1.length) : Calls Tryz.prog 94 #[.slice A xs.length c, .func (.func 95) #[] #[]] w0 fun e w' => e = .returned (.bool (xs.any (fun s : StepD => oursI s.2.1))) ∧ Mods (fun _ => False) w0 w' := by
 refine cow Tryz.func94 rfl Tryz.ntmps94 (Nat.le_of_ble_eq_true rfl) fun a F => ?_
 have H := Hp.nil (fun _ => False) w0
 have H := H.arg 901 hr.all (fun _ h => ⟨h, fun h => h⟩)
 have hle901 := hr.le; unfold maxLen at hle901
 refine sr fun _ hK1 => la F rfl (x_assign rfl) fun a F => wn (hK1 _ _ (sr fun _ hK2 => la F rfl (x_move (F.t 0 rfl)) fun a F => la F rfl (x_move (F.t 1 rfl)) fun a F => ?_))
 refine lp rfl ?_
 refine w_call F (x_enter Tryz.func110 (by kernel_rfl) rfl (by simp only [bM, F.t 5 rfl, F.t 6 rfl] <;> rfl)) (indexS_calls _ ((H.rd 901 rfl)) hbs) rfl rfl ?_
 rintro _ w ⟨i_, rfl, hi_, hm_⟩; refine ⟨_, rfl, ?_⟩; clear F; intro a F; have H := H.same hm_
 refine la F rfl (x_geq (F.t 7 rfl) rfl) fun a F => la F rfl (x_assign (F.t 8 rfl)) fun a F => wn (hK2 _ _ ?_)
 refine wp_ret ?_
 try simp only [Exit.then, Exit.inBlock]
 exact fin_ret F (res1 F rfl rfl) ⟨by rw [← hi_] <;> rfl, H.mods⟩
theorem wrong_calls (w0 : World) {pp : Bool} (hL : LibAt pp w0) {o : OpD} {oko0 : Nat → Prop} {Ao0 : Option Addr} {co0 : Nat} (hro0 : Rd StE w0 oko0 Ao0 o.timer.steps co0) (hb : OpB o) : Calls Tryz.prog 63 #[.agg #[.int .i64 o.kind, .string (strOfNums o.key), .int .i64 o.step.1, .string (strOfNums o.step.2.1), .string (strOfNums o.step.2.2.1), .int .i64 o.step.2.2.2, .string (strOfNums o.timer.name), .int .i64 o.timer.ver, .int .u64 o.timer.tick, .int .u64 o.timer.every, .slice Ao0 o.timer.steps.length co0]] w0 fun e w' => e = .returned (.bool (wrongO o)) ∧ Mods (fun _ => False) w0 w' := by
 refine cow Tryz.func63 rfl Tryz.ntmps63 (Nat.le_of_ble_eq_true rfl) fun a F => ?_
 have H := Hp.nil (fun _ => False) w0
 have H := H.arg 900 hro0.all (fun _ h => ⟨h, fun h => h⟩)
 have hleo0 := hro0.le; unfold maxLen at hleo0
 have H := H.libN 990 hL
 refine sr fun _ hK1 => ?_
 refine lp rfl ?_
 refine w_box 1 F H rfl (F.t 0 rfl) ?_
 clear F H; intro a w b1 F H
 refine la F rfl (x_assign rfl) fun a F => wn (hK1 _ _ (sr fun _ hK2 => la F rfl (x_loadn ty93 (F.t 1 rfl) rfl (blk_whole (H.at 1 rfl))) fun a F => ?_))
 refine lp rfl ?_
 refine w_call F (x_enter Tryz.func92 (by kernel_rfl) rfl (by simp only [bM, F.t 6 rfl] <;> rfl)) (lock_calls (o := o) _ (H.holds 990 _ rfl) ((H.rd 900 rfl)) hb) rfl rfl ?_
 rintro _ w ⟨rfl, hm_⟩; refine ⟨_, rfl, ?_⟩; clear F; intro a F; have H := H.same hm_
 refine la F rfl (x_move (F.t 7 rfl)) fun a F => la F rfl (x_extract (F.t 5 rfl) rfl) fun a F => la F rfl (x_extract (F.t 5 rfl) rfl) fun a F => la F rfl (x_assign (F.t 8 rfl)) fun a F => la F rfl (x_assign (F.t 9 rfl)) fun a F => wn (hK2 _ _ (sr fun _ hK3 => la F rfl (x_move (F.t 3 rfl)) fun a F => ?_))
 refine la F rfl (x_eqn0 (xs := (lockT o)) (F.t 10 rfl) (show _ = Value.string (strOfNums ([] : List Int)) by kernel_rfl)) fun a F => la F rfl (x_move (F.t 11 rfl)) fun a F => ?_
 refine split_bool F 12 rfl (fun hb12 => ?_) (fun hb12 => ?_)
 ·have hc12 := hb12; try simp only [bL] at hc12
  refine los F hb12 rfl fun a F => los F hb12 rfl fun a F => los F hb12 rfl fun a F => la F rfl (x_pickT (F.t 12 rfl) hb12 rfl) fun a F => la F rfl (x_move (F.t 16 rfl)) fun a F => lo F rfl fun a F => lo F rfl fun a F => lo F rfl fun a F => ?_
  refine lo F rfl fun a F => la F rfl (x_pickT (F.t 17 rfl) rfl rfl) fun a F => la F rfl (x_assign (F.t 22 rfl)) fun a F => wn (hK3 _ _ ?_)
  refine wp_ret ?_
  try simp only [Exit.then, Exit.inBlock]
  have hv : true = wrongO o := by unfold wrongO; cases o.timer.steps.any (fun s : StepD => oursI s.2.1) <;> simp [hc12, -List.drop_one, ← List.length_eq_zero_iff]
  exact fin_ret F (res1 (v := .bool true) F rfl rfl) ⟨by rw [hv], H.mods⟩
 have hc12 := hb12; try simp only [bL] at hc12
 have ho := over_of hc12
 have hll := lockT_len hb ho
 refine lgs F hb12 rfl (x_move (F.t 3 rfl)) fun a F => lgs F hb12 rfl (x_sliceSl (xs := (lockT o)) Tryz.underlying9 (F.t 13 rfl) rfl (by omega) (by omega)) fun a F => ?_
 refine lpo ((wo F rfl).trans (by rw [hb12]; rfl)) ?_
 refine w_call F (x_enter Tryz.func93 (by kernel_rfl) rfl (by simp only [bM, F.t 14 rfl] <;> rfl)) (ours_calls (xs := (lockT o).drop 1) _ ((lockT_byte hb : Byte _).drop 1) (by rw [List.length_drop]; omega)) rfl rfl ?_
 rintro _ w ⟨rfl, hm_⟩; refine ⟨_, rfl, ?_⟩; clear F; intro a F; have H := H.same hm_
 refine la F rfl (x_pickF (F.t 12 rfl) hb12 (F.t 15 rfl)) fun a F => la F rfl (x_move (F.t 16 rfl)) fun a F => ?_
 refine split_bool F 17 rfl (fun hb17 => ?_) (fun hb17 => ?_)
 ·have hc17 := hb17; try simp only [bL] at hc17
  refine los F hb17 rfl fun a F => los F hb17 rfl fun a F => los F hb17 rfl fun a F => los F hb17 rfl fun a F => la F rfl (x_pickT (F.t 17 rfl) hb17 rfl) fun a F => la F rfl (x_assign (F.t 22 rfl)) fun a F => wn (hK3 _ _ ?_)
  refine wp_ret ?_
  try simp only [Exit.then, Exit.inBlock]
  have hv : true = wrongO o := by unfold wrongO; cases o.timer.steps.any (fun s : StepD => oursI s.2.1) <;> simp [hc12, hc17, -List.drop_one, ← List.length_eq_zero_iff]
  exact fin_ret F (res1 (v := .bool true) F rfl rfl) ⟨by rw [hv], H.mods⟩
 have hc17 := hb17; try simp only [bL] at hc17
 refine lgs F hb17 rfl (x_faddr Tryz.underlying93 rfl ty64 (by decide) (F.t 1 rfl) rfl) fun a F => lgs F hb17 rfl (x_faddr Tryz.underlying64 rfl ty62 (by decide) (F.t 18 rfl) rfl) fun a F => lgs F hb17 rfl (x_load1 ty62 (F.t 19 rfl) (blk_cell (H.at 1 rfl) 10 rfl)) fun a F => ?_
 refine lpo ((wo F rfl).trans (by rw [hb17]; rfl)) ?_
 refine w_call F (x_enter Tryz.func94 (by kernel_rfl) rfl (by simp only [bM, F.t 20 rfl] <;> rfl)) (containsS_calls _ ((H.rd 900 rfl)) (fun s hs => ⟨hb.timer.steps s hs, (keys_len hb ho s hs).1⟩)) rfl rfl ?_
 rintro _ w ⟨rfl, hm_⟩; refine ⟨_, rfl, ?_⟩; clear F; intro a F; have H := H.same hm_
 refine la F rfl (x_pickF (F.t 17 rfl) hb17 (F.t 21 rfl)) fun a F => la F rfl (x_assign (F.t 22 rfl)) fun a F => wn (hK3 _ _ ?_)
 refine wp_ret ?_
 try simp only [Exit.then, Exit.inBlock]
 have hv : (o.timer.steps.any (fun s : StepD => oursI s.2.1)) = wrongO o := by unfold wrongO; cases o.timer.steps.any (fun s : StepD => oursI s.2.1) <;> simp [hc12, hc17, -List.drop_one, ← List.length_eq_zero_iff]
 exact fin_ret F (res1 (v := .bool (o.timer.steps.any (fun s : StepD => oursI s.2.1))) F rfl rfl) ⟨by rw [hv], H.mods⟩
theorem indexO_calls (w0 : World) {pp : Bool} (hL : LibAt pp w0) {ok : Nat → Prop} {A : Option Addr} {xs : List OpD} {c : Nat} (hr : Rd OpdE w0 ok A xs c) (hbs : ∀ o ∈ xs, OpB o) : Calls Tryz.prog 91 #[.slice A xs.length c, .func (.func 63) #[] #[]] w0 fun e w' => ∃ i, e = .returned (.int .i64 i) ∧ decide ((0 : Int) ≤ i) = xs.any wrongO ∧ Mods (fun _ => False) w0 w' := by
 refine cow Tryz.func91 rfl Tryz.ntmps91 (Nat.le_of_ble_eq_true rfl) fun a F => ?_
 have H := Hp.nil (fun _ => False) w0
 have H := H.arg 901 hr.all (fun _ h => ⟨h, fun h => h⟩)
 have hle901 := hr.le; unfold maxLen at hle901
 have H := H.libN 990 hL
 refine sr fun _ hK1 => la F rfl (x_assign rfl) fun a F => wn (hK1 _ _ ?_)
 refine wp_seq_k fun _ hK2 => ?_
 refine sr fun _ hK3 => la F rfl (x_move (F.t 0 rfl)) fun a F => la F rfl (x_len_slice Tryz.underlying37 (F.t 6 rfl)) fun a F => la F rfl (x_move rfl) fun a F => wn (hK3 _ _ (wp_block ?_))
 refine wp_loop_ghost (fun n_ a w => ∃ k : Nat, n_ = xs.length - k ∧ (k ≤ xs.length) ∧ ((xs.take k).any wrongO = false) ∧ Fr 19 a [(0, .slice A xs.length c), (1, .func (.func 63) #[] #[]), (7, .int .i64 (xs.length : Int)), (8, .int .i64 (k : Int))] ∧ Hp (fun _ => False) w0 w [(901, .rd_ OpdE A xs c (fun k => k < w0.heap.size)), (990, .lib pp)]) (xs.length) ?_ ?_
 ·exact ⟨0, rfl, by omega, rfl, ((((F.bare.add F 8 rfl).add F 7 rfl).add F 1 rfl).add F 0 rfl), H.sub _ (sub_cons (sub_cons (sub_nil _) 990 rfl) 901 rfl)⟩
 rintro _ a w ⟨k, rfl, hq0_0, hq0_1, F, H⟩
 refine sr fun _ hK4 => la F rfl (x_lss (F.t 8 rfl) (F.t 7 rfl)) fun a F => wn (hK4 _ _ ?_)
 refine wp_seq_k fun _ hK5 => ?_
 refine wp_cond_split (F.t 9 rfl) (fun hc9 => ?_) (fun hc9 => ?_)
 ·have hk9_1 := hc9; try simp only [bL] at hc9
  refine wp_skip (hK5 _ _ ?_)
  refine wp_seq_k fun _ hK6 => ?_
  refine wp_block (sr fun _ hK7 => la F rfl (x_move (F.t 8 rfl)) fun a F => la F rfl (x_assign (F.t 10 rfl)) fun a F => wn (hK7 _ _ (sr fun _ hK8 => ?_)))
  obtain ⟨fA1, fc1, hfr1, hf1_0, hf1_1, hf1_2, hf1_3, hf1_4, hf1_5, hf1_6, hf1_7, hf1_8, hf1_9, hf1_10, hfw1⟩ := rd_opd ((H.rd 901 rfl)) (gopd_some (xs := xs) (i := (k : Int)) (by omega) (by omega))
  have H := H.subrd 901 rfl 1010 hfr1 (fun _ h => h)
  have H := H.subcels 901 rfl 1499 hfw1 (Rd.inok ((H.rd 901 rfl)) (by omega) _)
  have H := H.subcel 901 rfl 1500 hf1_0 (Rd.inok ((H.rd 901 rfl)) (by omega) _)
  have H := H.subcel 901 rfl 1501 hf1_1 (Rd.inok ((H.rd 901 rfl)) (by omega) _)
  have H := H.subcel 901 rfl 1502 hf1_2 (Rd.inok ((H.rd 901 rfl)) (by omega) _)
  have H := H.subcel 901 rfl 1503 hf1_3 (Rd.inok ((H.rd 901 rfl)) (by omega) _)
  have H := H.subcel 901 rfl 1504 hf1_4 (Rd.inok ((H.rd 901 rfl)) (by omega) _)
  have H := H.subcel 901 rfl 1505 hf1_5 (Rd.inok ((H.rd 901 rfl)) (by omega) _)
  have H := H.subcel 901 rfl 1506 hf1_6 (Rd.inok ((H.rd 901 rfl)) (by omega) _)
  have H := H.subcel 901 rfl 1507 hf1_7 (Rd.inok ((H.rd 901 rfl)) (by omega) _)
  have H := H.subcel 901 rfl 1508 hf1_8 (Rd.inok ((H.rd 901 rfl)) (by omega) _)
  have H := H.subcel 901 rfl 1509 hf1_9 (Rd.inok ((H.rd 901 rfl)) (by omega) _)
  have H := H.subcel 901 rfl 1510 hf1_10 (Rd.inok ((H.rd 901 rfl)) (by omega) _)
  refine la F rfl (x_move (F.t 1 rfl)) fun a F => la F rfl (x_move (F.t 0 rfl)) fun a F => la F rfl (x_move (F.t 5 rfl)) fun a F => la F rfl (x_iaddr_A Tryz.underlying37 ty93 ((H.rd 901 rfl)) (F.t 12 rfl) (F.t 13 rfl) (by omega) (by omega) _) fun a F => la F rfl (x_loadn ty93 (F.t 14 rfl) rfl (H.holds 1499 _ rfl)) fun a F => ?_
  refine lp rfl ?_
  refine w_call F (x_enterC (vs := #[.agg #[.int .i64 (gopd xs (k : Int)).kind, .string (strOfNums (gopd xs (k : Int)).key), .int .i64 (gopd xs (k : Int)).step.1, .string (strOfNums (gopd xs (k : Int)).step.2.1), .string (strOfNums (gopd xs (k : Int)).step.2.2.1), .int .i64 (gopd xs (k : Int)).step.2.2.2, .string (strOfNums (gopd xs (k : Int)).timer.name), .int .i64 (gopd xs (k : Int)).timer.ver, .int .u64 (gopd xs (k : Int)).timer.tick, .int .u64 (gopd xs (k : Int)).timer.every, .slice fA1 (gopd xs (k : Int)).timer.steps.length fc1]]) (caps := #[]) (args := #[.agg #[.int .i64 (gopd xs (k : Int)).kind, .string (strOfNums (gopd xs (k : Int)).key), .int .i64 (gopd xs (k : Int)).step.1, .string (strOfNums (gopd xs (k : Int)).step.2.1), .string (strOfNums (gopd xs (k : Int)).step.2.2.1), .int .i64 (gopd xs (k : Int)).step.2.2.2, .string (strOfNums (gopd xs (k : Int)).timer.name), .int .i64 (gopd xs (k : Int)).timer.ver, .int .u64 (gopd xs (k : Int)).timer.tick, .int .u64 (gopd xs (k : Int)).timer.every, .slice fA1 (gopd xs (k : Int)).timer.steps.length fc1]]) Tryz.func63 (by kernel_rfl) rfl (F.t 11 rfl) (by simp only [bM, F.t 15 rfl] <;> rfl) rfl) (wrong_calls (o := (gopd xs (k : Int))) _ (H.holds 990 _ rfl) ((H.rd 1010 rfl)) (hbs _ (gopd_mem (xs := xs) (j := k) (by omega)))) rfl rfl ?_
  rintro _ w ⟨rfl, hm_⟩; refine ⟨_, rfl, ?_⟩; clear F; intro a F; have H := H.same hm_
  refine wn (hK8 _ _ ?_)
  refine wp_cond_split (F.t 16 rfl) (fun hc16 => ?_) (fun hc16 => ?_)
  ·have hk16_2 := hc16; try simp only [bL] at hc16
   have hz : decide ((0 : Int) ≤ (k : Int)) = xs.any wrongO := by rw [decide_eq_true (by omega), any_hit (p := wrongO) (gopd_some (xs := xs) (i := (k : Int)) (by omega) (by omega)) hc16]
   refine sr fun _ hK9 => la F rfl (x_move (F.t 5 rfl)) fun a F => la F rfl (x_assign (F.t 17 rfl)) fun a F => wn (hK9 _ _ ?_)
   refine wp_ret ?_
   try simp only [Exit.then, Exit.inBlock]
   exact fin_ret F (res1 F rfl rfl) ⟨_, rfl, hz, H.mods⟩
  have hk16_3 := hc16; try simp only [bL] at hc16
  have hno : wrongO (gopd xs (k : Int)) = false := by first | exact hk16_2 | simpa using hc16
  refine wp_skip (hK6 _ _ ?_)
  refine wp_region_lit ?_
  refine la F rfl (x_add (F.t 8 rfl) rfl (w64 (by omega) (by omega))) fun a F => la F rfl (x_move (F.t 18 rfl)) fun a F => ?_
  refine wpList_nil ?_
  exact ⟨_, by omega, ⟨k + 1, rfl, by omega, any_take (gopd_some (xs := xs) (i := (k : Int)) (by omega) (by omega)) hq0_1 hno, ((((F.bare.add F 8 rfl).add F 7 rfl).add F 1 rfl).add F 0 rfl), H.sub _ (sub_cons (sub_cons (sub_nil _) 990 rfl) 901 rfl)⟩⟩
 have hk9_4 := hc9; try simp only [bL] at hc9
 obtain rfl : k = xs.length := by omega
 rw [List.take_length] at hq0_1
 have hz : decide ((0 : Int) ≤ -1) = xs.any wrongO := by rw [hq0_1]; rfl
 refine wp_exit ?_
 refine hK2 _ _ (sr fun _ hK10 => la F rfl (x_assign rfl) fun a F => wn (hK10 _ _ ?_))
 refine wp_ret ?_
 try simp only [Exit.then, Exit.inBlock]
 exact fin_ret F (res1 F rfl rfl) ⟨_, rfl, hz, H.mods⟩
theorem containsO_calls (w0 : World) {pp : Bool} (hL : LibAt pp w0) {ok : Nat → Prop} {A : Option Addr} {xs : List OpD} {c : Nat} (hr : Rd OpdE w0 ok A xs c) (hbs : ∀ o ∈ xs, OpB o) : Calls Tryz.prog 62 #[.slice A xs.length c, .func (.func 63) #[] #[]] w0 fun e w' => e = .returned (.bool (xs.any wrongO)) ∧ Mods (fun _ => False) w0 w' := by
 refine cow Tryz.func62 rfl Tryz.ntmps62 (Nat.le_of_ble_eq_true rfl) fun a F => ?_
 have H := Hp.nil (fun _ => False) w0
 have H := H.arg 901 hr.all (fun _ h => ⟨h, fun h => h⟩)
 have hle901 := hr.le; unfold maxLen at hle901
 have H := H.libN 990 hL
 refine sr fun _ hK1 => la F rfl (x_assign rfl) fun a F => wn (hK1 _ _ (sr fun _ hK2 => la F rfl (x_move (F.t 0 rfl)) fun a F => la F rfl (x_move (F.t 1 rfl)) fun a F => ?_))
 refine lp rfl ?_
 refine w_call F (x_enter Tryz.func91 (by kernel_rfl) rfl (by simp only [bM, F.t 5 rfl, F.t 6 rfl] <;> rfl)) (indexO_calls _ (H.holds 990 _ rfl) ((H.rd 901 rfl)) hbs) rfl rfl ?_
 rintro _ w ⟨i_, rfl, hi_, hm_⟩; refine ⟨_, rfl, ?_⟩; clear F; intro a F; have H := H.same hm_
 refine la F rfl (x_geq (F.t 7 rfl) rfl) fun a F => la F rfl (x_assign (F.t 8 rfl)) fun a F => wn (hK2 _ _ ?_)
 refine wp_ret ?_
 try simp only [Exit.then, Exit.inBlock]
 exact fin_ret F (res1 F rfl rfl) ⟨by rw [← hi_] <;> rfl, H.mods⟩
theorem rightQ_calls (w0 : World) {pp : Bool} (hL : LibAt pp w0) {r : SReqD} {okr0 : Nat → Prop} {Ar0 : Option Addr} {cr0 : Nat} (hrr0 : Rd OpdE w0 okr0 Ar0 r.ops cr0) (hb : SReqB r) : Calls Tryz.prog 25 #[.agg #[.string (strOfNums r.client), .int .i64 r.num, .slice Ar0 r.ops.length cr0]] w0 fun e w' => e = .returned (.bool (rightQ r)) ∧ Mods (fun _ => False) w0 w' := by
 refine cow Tryz.func25 rfl Tryz.ntmps25 (Nat.le_of_ble_eq_true rfl) fun a F => ?_
 have H := Hp.nil (fun _ => False) w0
 have H := H.arg 900 hrr0.all (fun _ h => ⟨h, fun h => h⟩)
 have hler0 := hrr0.le; unfold maxLen at hler0
 have H := H.libN 990 hL
 refine sr fun _ hK1 => ?_
 refine lp rfl ?_
 refine w_box 1 F H rfl (F.t 0 rfl) ?_
 clear F H; intro a w b1 F H
 refine la F rfl (x_assign rfl) fun a F => wn (hK1 _ _ (sr fun _ hK2 => la F rfl (x_faddr Tryz.underlying39 rfl ty9 (by decide) (F.t 1 rfl) rfl) fun a F => la F rfl (x_load1 ty9 (F.t 3 rfl) (blk_cell (H.at 1 rfl) 0 rfl)) fun a F => la F rfl (x_nen0 (xs := r.client) (F.t 4 rfl) (show _ = Value.string (strOfNums ([] : List Int)) by kernel_rfl)) fun a F => la F rfl (x_move (F.t 5 rfl)) fun a F => ?_))
 refine split_bool F 6 rfl (fun hb6 => ?_) (fun hb6 => ?_)
 ·have hc6 := hb6; try simp only [bL] at hc6
  refine lgs F hb6 rfl (x_faddr Tryz.underlying39 rfl ty9 (by decide) (F.t 1 rfl) rfl) fun a F => lgs F hb6 rfl (x_load1 ty9 (F.t 7 rfl) (blk_cell (H.at 1 rfl) 0 rfl)) fun a F => lgs F hb6 rfl (x_len_sn (xs := r.client) Tryz.underlying9 (F.t 8 rfl)) fun a F => lgs F hb6 rfl (x_leq (F.t 9 rfl) rfl) fun a F => la F rfl (x_pickT (F.t 6 rfl) hb6 (F.t 10 rfl)) fun a F => la F rfl (x_move (F.t 11 rfl)) fun a F => ?_
  refine split_bool F 12 rfl (fun hb12 => ?_) (fun hb12 => ?_)
  ·have hc12 := hb12; try simp only [bL] at hc12
   refine lgs F hb12 rfl (x_faddr Tryz.underlying39 rfl ty3 (by decide) (F.t 1 rfl) rfl) fun a F => lgs F hb12 rfl (x_load1 ty3 (F.t 13 rfl) (blk_cell (H.at 1 rfl) 1 rfl)) fun a F => lgs F hb12 rfl (x_geq (F.t 14 rfl) rfl) fun a F => la F rfl (x_pickT (F.t 12 rfl) hb12 (F.t 15 rfl)) fun a F => la F rfl (x_move (F.t 16 rfl)) fun a F => ?_
   refine split_bool F 17 rfl (fun hb17 => ?_) (fun hb17 => ?_)
   ·have hc17 := hb17; try simp only [bL] at hc17
    refine lgs F hb17 rfl (x_faddr Tryz.underlying39 rfl ty3 (by decide) (F.t 1 rfl) rfl) fun a F => lgs F hb17 rfl (x_load1 ty3 (F.t 18 rfl) (blk_cell (H.at 1 rfl) 1 rfl)) fun a F => lgs F hb17 rfl (x_leq (F.t 19 rfl) rfl) fun a F => la F rfl (x_pickT (F.t 17 rfl) hb17 (F.t 20 rfl)) fun a F => la F rfl (x_move (F.t 21 rfl)) fun a F => ?_
    refine split_bool F 22 rfl (fun hb22 => ?_) (fun hb22 => ?_)
    ·have hc22 := hb22; try simp only [bL] at hc22
     refine lgs F hb22 rfl (x_faddr Tryz.underlying39 rfl ty37 (by decide) (F.t 1 rfl) rfl) fun a F => lgs F hb22 rfl (x_load1 ty37 (F.t 23 rfl) (blk_cell (H.at 1 rfl) 2 rfl)) fun a F => lgs F hb22 rfl (x_len_slice Tryz.underlying37 (F.t 24 rfl)) fun a F => lgs F hb22 rfl (x_geq (F.t 25 rfl) rfl) fun a F => la F rfl (x_pickT (F.t 22 rfl) hb22 (F.t 26 rfl)) fun a F => la F rfl (x_move (F.t 27 rfl)) fun a F => ?_
     refine split_bool F 28 rfl (fun hb28 => ?_) (fun hb28 => ?_)
     ·have hc28 := hb28; try simp only [bL] at hc28
      refine lgs F hb28 rfl (x_faddr Tryz.underlying39 rfl ty37 (by decide) (F.t 1 rfl) rfl) fun a F => lgs F hb28 rfl (x_load1 ty37 (F.t 29 rfl) (blk_cell (H.at 1 rfl) 2 rfl)) fun a F => lgs F hb28 rfl (x_len_slice Tryz.underlying37 (F.t 30 rfl)) fun a F => lgs F hb28 rfl (x_leq (F.t 31 rfl) rfl) fun a F => la F rfl (x_pickT (F.t 28 rfl) hb28 (F.t 32 rfl)) fun a F => la F rfl (x_move (F.t 33 rfl)) fun a F => ?_
      refine split_bool F 34 rfl (fun hb34 => ?_) (fun hb34 => ?_)
      ·have hc34 := hb34; try simp only [bL] at hc34
       refine lgs F hb34 rfl (x_faddr Tryz.underlying39 rfl ty37 (by decide) (F.t 1 rfl) rfl) fun a F => lgs F hb34 rfl (x_load1 ty37 (F.t 35 rfl) (blk_cell (H.at 1 rfl) 2 rfl)) fun a F => ?_
       refine lpo ((wo F rfl).trans (by rw [hb34]; rfl)) ?_
       refine w_call F (x_enter Tryz.func62 (by kernel_rfl) rfl (by simp only [bM, F.t 36 rfl] <;> rfl)) (containsO_calls _ (H.holds 990 _ rfl) ((H.rd 900 rfl)) hb.ops) rfl rfl ?_
       rintro _ w ⟨rfl, hm_⟩; refine ⟨_, rfl, ?_⟩; clear F; intro a F; have H := H.same hm_
       refine lgs F hb34 rfl (x_not (F.t 37 rfl)) fun a F => la F rfl (x_pickT (F.t 34 rfl) hb34 (F.t 38 rfl)) fun a F => la F rfl (x_assign (F.t 39 rfl)) fun a F => wn (hK2 _ _ ?_)
       refine wp_ret ?_
       try simp only [Exit.then, Exit.inBlock]
       have hv : (!(r.ops.any wrongO)) = rightQ r := by unfold rightQ; cases r.ops.any wrongO <;> (rw [Bool.eq_iff_iff]; simp [hc6, hc12, hc17, hc22, hc28, hc34, -List.length_eq_zero_iff]; first | omega | (intros; omega) | skip)
       exact fin_ret F (res1 (v := .bool (!(r.ops.any wrongO))) F rfl rfl) ⟨by rw [hv], H.mods⟩
      have hc34 := hb34; try simp only [bL] at hc34
      refine los F hb34 rfl fun a F => los F hb34 rfl fun a F => los F hb34 rfl fun a F => los F hb34 rfl fun a F => la F rfl (x_pickF (F.t 34 rfl) hb34 rfl) fun a F => la F rfl (x_assign (F.t 39 rfl)) fun a F => wn (hK2 _ _ ?_)
      refine wp_ret ?_
      try simp only [Exit.then, Exit.inBlock]
      have hv : false = rightQ r := by unfold rightQ; cases r.ops.any wrongO <;> (rw [Bool.eq_iff_iff]; simp [hc6, hc12, hc17, hc22, hc28, hc34, -List.length_eq_zero_iff]; first | omega | (intros; omega) | skip)
      exact fin_ret F (res1 (v := .bool false) F rfl rfl) ⟨by rw [hv], H.mods⟩
     have hc28 := hb28; try simp only [bL] at hc28
     refine los F hb28 rfl fun a F => los F hb28 rfl fun a F => los F hb28 rfl fun a F => los F hb28 rfl fun a F => la F rfl (x_pickF (F.t 28 rfl) hb28 rfl) fun a F => la F rfl (x_move (F.t 33 rfl)) fun a F => lo F rfl fun a F => lo F rfl fun a F => ?_
     refine lo F rfl fun a F => lo F rfl fun a F => la F rfl (x_pickF (F.t 34 rfl) rfl rfl) fun a F => la F rfl (x_assign (F.t 39 rfl)) fun a F => wn (hK2 _ _ ?_)
     refine wp_ret ?_
     try simp only [Exit.then, Exit.inBlock]
     have hv : false = rightQ r := by unfold rightQ; cases r.ops.any wrongO <;> (rw [Bool.eq_iff_iff]; simp [hc6, hc12, hc17, hc22, hc28, -List.length_eq_zero_iff]; first | omega | (intros; omega) | skip)
     exact fin_ret F (res1 (v := .bool false) F rfl rfl) ⟨by rw [hv], H.mods⟩
    have hc22 := hb22; try simp only [bL] at hc22
    refine los F hb22 rfl fun a F => los F hb22 rfl fun a F => los F hb22 rfl fun a F => los F hb22 rfl fun a F => la F rfl (x_pickF (F.t 22 rfl) hb22 rfl) fun a F => la F rfl (x_move (F.t 27 rfl)) fun a F => lo F rfl fun a F => lo F rfl fun a F => ?_
    refine lo F rfl fun a F => lo F rfl fun a F => la F rfl (x_pickF (F.t 28 rfl) rfl rfl) fun a F => la F rfl (x_move (F.t 33 rfl)) fun a F => lo F rfl fun a F => lo F rfl fun a F => lo F rfl fun a F => lo F rfl fun a F => ?_
    refine la F rfl (x_pickF (F.t 34 rfl) rfl rfl) fun a F => la F rfl (x_assign (F.t 39 rfl)) fun a F => wn (hK2 _ _ ?_)
    refine wp_ret ?_
    try simp only [Exit.then, Exit.inBlock]
    have hv : false = rightQ r := by unfold rightQ; cases r.ops.any wrongO <;> (rw [Bool.eq_iff_iff]; simp [hc6, hc12, hc17, hc22, -List.length_eq_zero_iff]; first | omega | (intros; omega) | skip)
    exact fin_ret F (res1 (v := .bool false) F rfl rfl) ⟨by rw [hv], H.mods⟩
   have hc17 := hb17; try simp only [bL] at hc17
   refine los F hb17 rfl fun a F => los F hb17 rfl fun a F => los F hb17 rfl fun a F => la F rfl (x_pickF (F.t 17 rfl) hb17 rfl) fun a F => la F rfl (x_move (F.t 21 rfl)) fun a F => lo F rfl fun a F => lo F rfl fun a F => lo F rfl fun a F => ?_
   refine lo F rfl fun a F => la F rfl (x_pickF (F.t 22 rfl) rfl rfl) fun a F => la F rfl (x_move (F.t 27 rfl)) fun a F => lo F rfl fun a F => lo F rfl fun a F => lo F rfl fun a F => lo F rfl fun a F => la F rfl (x_pickF (F.t 28 rfl) rfl rfl) fun a F => ?_
   refine la F rfl (x_move (F.t 33 rfl)) fun a F => lo F rfl fun a F => lo F rfl fun a F => lo F rfl fun a F => lo F rfl fun a F => la F rfl (x_pickF (F.t 34 rfl) rfl rfl) fun a F => la F rfl (x_assign (F.t 39 rfl)) fun a F => wn (hK2 _ _ ?_)
   refine wp_ret ?_
   try simp only [Exit.then, Exit.inBlock]
   have hv : false = rightQ r := by unfold rightQ; cases r.ops.any wrongO <;> (rw [Bool.eq_iff_iff]; simp [hc6, hc12, hc17, -List.length_eq_zero_iff]; first | omega | (intros; omega) | skip)
   exact fin_ret F (res1 (v := .bool false) F rfl rfl) ⟨by rw [hv], H.mods⟩
  have hc12 := hb12; try simp only [bL] at hc12
  refine los F hb12 rfl fun a F => los F hb12 rfl fun a F => los F hb12 rfl fun a F => la F rfl (x_pickF (F.t 12 rfl) hb12 rfl) fun a F => la F rfl (x_move (F.t 16 rfl)) fun a F => lo F rfl fun a F => lo F rfl fun a F => lo F rfl fun a F => ?_
  refine la F rfl (x_pickF (F.t 17 rfl) rfl rfl) fun a F => la F rfl (x_move (F.t 21 rfl)) fun a F => lo F rfl fun a F => lo F rfl fun a F => lo F rfl fun a F => lo F rfl fun a F => la F rfl (x_pickF (F.t 22 rfl) rfl rfl) fun a F => la F rfl (x_move (F.t 27 rfl)) fun a F => ?_
  refine lo F rfl fun a F => lo F rfl fun a F => lo F rfl fun a F => lo F rfl fun a F => la F rfl (x_pickF (F.t 28 rfl) rfl rfl) fun a F => la F rfl (x_move (F.t 33 rfl)) fun a F => lo F rfl fun a F => lo F rfl fun a F => ?_
  refine lo F rfl fun a F => lo F rfl fun a F => la F rfl (x_pickF (F.t 34 rfl) rfl rfl) fun a F => la F rfl (x_assign (F.t 39 rfl)) fun a F => wn (hK2 _ _ ?_)
  refine wp_ret ?_
  try simp only [Exit.then, Exit.inBlock]
  have hv : false = rightQ r := by unfold rightQ; cases r.ops.any wrongO <;> (rw [Bool.eq_iff_iff]; simp [hc6, hc12, -List.length_eq_zero_iff]; first | omega | (intros; omega) | skip)
  exact fin_ret F (res1 (v := .bool false) F rfl rfl) ⟨by rw [hv], H.mods⟩
 have hc6 := hb6; try simp only [bL] at hc6
 refine los F hb6 rfl fun a F => los F hb6 rfl fun a F => los F hb6 rfl fun a F => los F hb6 rfl fun a F => la F rfl (x_pickF (F.t 6 rfl) hb6 rfl) fun a F => la F rfl (x_move (F.t 11 rfl)) fun a F => lo F rfl fun a F => lo F rfl fun a F => ?_
 refine lo F rfl fun a F => la F rfl (x_pickF (F.t 12 rfl) rfl rfl) fun a F => la F rfl (x_move (F.t 16 rfl)) fun a F => lo F rfl fun a F => lo F rfl fun a F => lo F rfl fun a F => la F rfl (x_pickF (F.t 17 rfl) rfl rfl) fun a F => la F rfl (x_move (F.t 21 rfl)) fun a F => ?_
 refine lo F rfl fun a F => lo F rfl fun a F => lo F rfl fun a F => lo F rfl fun a F => la F rfl (x_pickF (F.t 22 rfl) rfl rfl) fun a F => la F rfl (x_move (F.t 27 rfl)) fun a F => lo F rfl fun a F => lo F rfl fun a F => ?_
 refine lo F rfl fun a F => lo F rfl fun a F => la F rfl (x_pickF (F.t 28 rfl) rfl rfl) fun a F => la F rfl (x_move (F.t 33 rfl)) fun a F => lo F rfl fun a F => lo F rfl fun a F => lo F rfl fun a F => lo F rfl fun a F => ?_
 refine la F rfl (x_pickF (F.t 34 rfl) rfl rfl) fun a F => la F rfl (x_assign (F.t 39 rfl)) fun a F => wn (hK2 _ _ ?_)
 refine wp_ret ?_
 try simp only [Exit.then, Exit.inBlock]
 have hv : false = rightQ r := by unfold rightQ; cases r.ops.any wrongO <;> (rw [Bool.eq_iff_iff]; simp [hc6, -List.length_eq_zero_iff]; first | omega | (intros; omega) | skip)
 exact fin_ret F (res1 (v := .bool false) F rfl rfl) ⟨by rw [hv], H.mods⟩
theorem op_calls (w0 : World) {pp : Bool} (hL : LibAt pp w0) {o : OpD} {oko0 : Nat → Prop} {Ao0 : Option Addr} {co0 : Nat} (hro0 : Rd StE w0 oko0 Ao0 o.timer.steps co0) (hb : OpB o) (ho : overO o = true) : Calls Tryz.prog 54 #[.agg #[.int .i64 o.kind, .string (strOfNums o.key), .int .i64 o.step.1, .string (strOfNums o.step.2.1), .string (strOfNums o.step.2.2.1), .int .i64 o.step.2.2.2, .string (strOfNums o.timer.name), .int .i64 o.timer.ver, .int .u64 o.timer.tick, .int .u64 o.timer.every, .slice Ao0 o.timer.steps.length co0]] w0 fun e w' => ∃ v, e = .returned v ∧ Mods (fun _ => False) w0 w' ∧ RowOut (.int .u8) 5 w0 w' v (opI o) := by
 refine cow Tryz.func54 rfl Tryz.ntmps54 (Nat.le_of_ble_eq_true rfl) fun a F => ?_
 have H := Hp.nil (fun _ => False) w0
 have H := H.arg 900 hro0.all (fun _ h => ⟨h, fun h => h⟩)
 have hleo0 := hro0.le; unfold maxLen at hleo0
 have H := H.libN 990 hL
 refine sr fun _ hK1 => ?_
 refine lp rfl ?_
 refine w_box 1 F H rfl (F.t 0 rfl) ?_
 clear F H; intro a w b1 F H
 refine la F rfl (x_assign rfl) fun a F => wn (hK1 _ _ (sr fun _ hK2 => la F rfl (x_faddr Tryz.underlying93 rfl ty9 (by decide) (F.t 1 rfl) rfl) fun a F => la F rfl (x_load1 ty9 (F.t 7 rfl) (blk_cell (H.at 1 rfl) 1 rfl)) fun a F => ?_))
 refine lp rfl ?_
 refine w_s2b 9 (xs := o.key) F H rfl Tryz.underlying9 Tryz.underlying27 Tryz.underlying5 (F.t 8 rfl) hb.key (by have := over_lens hb ho; omega) ?_
 clear F H; intro a w b9 c9 hb9_ F H
 refine la F rfl (x_buildS (cells := #[.int .i64 2, .slice (some ⟨b9, 0, none⟩) o.key.length c9]) (places := #[(0, 1), (1, 1)]) Tryz.underlying57 ty57 (by kernel_rfl) (by simp only [bM, F.t 9 rfl] <;> rfl) rfl) fun a F => ?_
 refine lp rfl ?_
 refine w_alloc 3 F H rfl ty57 ?_
 clear F H; intro a w b3 F H
 refine lp rfl ?_
 refine w_storeA 3 H ty57 rfl (F.t 3 rfl) (F.t 10 rfl) rfl (by simp [Value.cells, Value.oneCell']) rfl ?_
 clear H; intro w H
 refine wn (hK2 _ _ ?_)
 refine wp_seq_k fun _ hK3 => ?_
 refine sr fun _ hK4 => la F rfl (x_faddr Tryz.underlying93 rfl ty88 (by decide) (F.t 1 rfl) rfl) fun a F => la F rfl (x_load1 ty88 (F.t 11 rfl) (blk_cell (H.at 1 rfl) 0 rfl)) fun a F => wn (hK4 _ _ (wp_block (sr fun _ hK5 => la F rfl (x_eql (F.t 12 rfl) rfl) fun a F => la F rfl (x_assign (F.t 14 rfl)) fun a F => ?_)))
 refine wn (hK5 _ _ ?_)
 refine wp_cond_split (F.t 13 rfl) (fun hc13 => ?_) (fun hc13 => ?_)
 ·have hk13_1 := hc13; try simp only [bL] at hc13
  refine sr fun _ hK6 => la F rfl (x_faddr Tryz.underlying57 rfl ty3 (by decide) (F.t 3 rfl) rfl) fun a F => ?_
  refine lp rfl ?_
  refine w_store 3 H ty3 rfl (F.t 15 rfl) rfl rfl (one1 rfl rfl) (by first | decide | exact Nat.le_of_ble_eq_true rfl) ?_
  clear H; intro w H
  refine wn (hK6 _ _ ?_)
  refine wp_region_lit ?_
  refine la F rfl (x_faddr Tryz.underlying93 rfl ty91 (by decide) (F.t 1 rfl) rfl) fun a F => la F rfl (x_loadn (cs := #[.int .i64 o.step.1, .string (strOfNums o.step.2.1), .string (strOfNums o.step.2.2.1), .int .i64 o.step.2.2.2]) ty91 (F.t 17 rfl) rfl (blk_sub (H.at 1 rfl) 2 4 rfl)) fun a F => ?_
  refine lp rfl ?_
  refine w_lit1 19 StE o.step #[.int .i64 o.step.1, .string (strOfNums o.step.2.1), .string (strOfNums o.step.2.2.1), .int .i64 o.step.2.2.2] (fun _ => False) F H rfl Tryz.underlying62 ty91 (by simp only [bM, F.t 18 rfl] <;> rfl) (by decide) (by kernel_rfl) (st_mk o.step) (fun kb hk => hk.elim) ?_
  clear F H; intro a w b19 F hb19_ H
  refine lp rfl ?_
  refine w_call F (x_enter Tryz.func68 (by kernel_rfl) rfl (by simp only [bM, F.t 19 rfl] <;> rfl)) (aenc_calls (xs := [o.step]) _ (H.holds 990 _ rfl) ((H.rd 19 rfl)) (fun s hs => by rw [List.mem_singleton] at hs; subst hs; exact hb.step)) rfl rfl ?_
  rintro _ w ⟨vr20, rfl, hm_, hr_⟩; refine ⟨_, rfl, ?_⟩; clear F; intro a F; have H := Hp.rowOut H 20 hm_ hr_; obtain ⟨Ar20, cr20, rfl⟩ := (H.row 20 rfl).form
  refine la F rfl (x_move (F.t 20 rfl)) fun a F => la F rfl (x_extract (F.t 16 rfl) rfl) fun a F => ?_
  have H := H.freeze 20 rfl (fun kb => (Value.slice Ar20 (encT [o.step]).length cr20).ownBlock = some kb) (fun kb => ⟨fun h => .inr h, fun h => h.resolve_left id⟩)
  refine la F rfl (x_extract (F.t 16 rfl) rfl) fun a F => la F rfl (x_faddr Tryz.underlying57 rfl ty27 (by decide) (F.t 3 rfl) rfl) fun a F => ?_
  refine lp rfl ?_
  refine w_store 3 H ty27 rfl (F.t 23 rfl) (F.t 21 rfl) rfl (one1 rfl rfl) (by first | decide | exact Nat.le_of_ble_eq_true rfl) ?_
  clear H; intro w H
  refine wn (hK3 _ _ (sr fun _ hK7 => la F rfl (x_faddr Tryz.underlying93 rfl ty88 (by decide) (F.t 1 rfl) rfl) fun a F => la F rfl (x_load1 ty88 (F.t 38 rfl) (blk_cell (H.at 1 rfl) 0 rfl)) fun a F => la F rfl (x_conv Tryz.underlying5 ⟨_, Tryz.underlying88⟩ (F.t 39 rfl) (wu8 (by have := (op_kind hb ho); omega) (by have := (op_kind hb ho); omega))) fun a F => ?_))
  refine lp rfl ?_
  refine w_lit 41 (enc := Value.int .u8) (h1 := fun _ => rfl) ([o.kind]) F H rfl Tryz.underlying27 ty5 (by simp only [bM, F.t 40 rfl]; rfl) rfl (by decide) (by decide) (by kernel_rfl) ?_
  clear F H; intro a w b41 F H
  have H := H.freeze 41 rfl (fun kb => (Value.slice (some ⟨b41, 0, none⟩) ([o.kind]).length ([o.kind]).length).ownBlock = some kb) (fun kb => ⟨fun h => .inr h, fun h => h.resolve_left id⟩)
  refine la F rfl (x_buildS (cells := #[.int .i64 1, .slice (some ⟨b41, 0, none⟩) ([o.kind]).length ([o.kind]).length]) (places := #[(0, 1), (1, 1)]) Tryz.underlying57 ty57 (by kernel_rfl) (by simp only [bM, F.t 41 rfl] <;> rfl) rfl) fun a F => la F rfl (x_loadn ty57 (F.t 3 rfl) rfl (blk_whole (H.at 3 rfl))) fun a F => ?_
  refine lp rfl ?_
  refine w_litE 44 FE ([((1, [o.kind]) : Fld), ((3, (encT [o.step])) : Fld)]) #[.int .i64 1, .slice (some ⟨b41, 0, none⟩) ([o.kind]).length ([o.kind]).length, .int .i64 3, .slice Ar20 (encT [o.step]).length cr20] (fun kb => (fun kb => (Value.slice (some ⟨b41, 0, none⟩) ([o.kind]).length ([o.kind]).length).ownBlock = some kb) kb ∨ (fun kb => (Value.slice Ar20 (encT [o.step]).length cr20).ownBlock = some kb) kb) F H rfl Tryz.underlying60 ty57 (by simp only [bM, F.t 42 rfl, F.t 43 rfl] <;> rfl) rfl (by decide) (by decide) (by kernel_rfl) ((Elems.single (fld_mk (f := ((1, [o.kind]) : Fld)) (((H.rd 41 rfl)).move (fun _ _ _ => rfl) (fun k h _ => .inl h)))).append (Elems.single (fld_mk (f := ((3, (encT [o.step])) : Fld)) (((H.rd 20 rfl)).move (fun _ _ _ => rfl) (fun k h _ => .inr h))))) (fun kb hk => hk.elim (fun h => ⟨41, _, rfl, h⟩) (fun h => ⟨20, _, rfl, h⟩)) ?_
  clear F H; intro a w b44 F H
  refine lp rfl ?_
  refine w_call F (x_enter Tryz.func30 (by kernel_rfl) rfl (by simp only [bM, F.t 44 rfl] <;> rfl)) (enc_at (Row.rd (ok' := fun k_ => (fun kb => (fun kb => (Value.slice (some ⟨b41, 0, none⟩) ([o.kind]).length ([o.kind]).length).ownBlock = some kb) kb ∨ (fun kb => (Value.slice Ar20 (encT [o.step]).length cr20).ownBlock = some kb) kb) k_ ∨ (.slice (some ⟨b44, 0, none⟩) ([((1, [o.kind]) : Fld), ((3, (encT [o.step])) : Fld)]).length ([((1, [o.kind]) : Fld), ((3, (encT [o.step])) : Fld)]).length : Value).ownBlock = some k_) (H.row 44 rfl) (fun _ hk_ _ => .inl hk_) (fun _ hk_ => .inr hk_)) (by rw [opF_2 hc13]; exact op_encR hb ho)) rfl rfl ?_
  rintro _ w ⟨vr45, rfl, hm_, hr_⟩; refine ⟨_, rfl, ?_⟩; clear F; intro a F; have H := Hp.rowOut H 45 hm_ hr_; obtain ⟨Ar45, cr45, rfl⟩ := (H.row 45 rfl).form
  refine la F rfl (x_move (F.t 45 rfl)) fun a F => la F rfl (x_extract (F.t 37 rfl) rfl) fun a F => la F rfl (x_extract (F.t 37 rfl) rfl) fun a F => la F rfl (x_assign (F.t 46 rfl)) fun a F => la F rfl (x_assign (F.t 47 rfl)) fun a F => wn (hK7 _ _ (sr fun _ hK8 => la F rfl (x_move (F.t 5 rfl)) fun a F => ?_))
  refine la F rfl (x_assign (F.t 48 rfl)) fun a F => wn (hK8 _ _ ?_)
  refine wp_ret ?_
  try simp only [Exit.then, Exit.inBlock]
  exact fin_ret F (res1 F rfl rfl) ⟨_, rfl, H.mods, Hp.out H 45 rfl⟩
 have hk13_2 := hc13; try simp only [bL] at hc13
 refine sr fun _ hK9 => la F rfl (x_eql (F.t 12 rfl) rfl) fun a F => la F rfl (x_assign (F.t 25 rfl)) fun a F => wn (hK9 _ _ ?_)
 refine wp_cond_split (F.t 24 rfl) (fun hc24 => ?_) (fun hc24 => ?_)
 ·have hk24_3 := hc24; try simp only [bL] at hc24
  refine sr fun _ hK10 => la F rfl (x_faddr Tryz.underlying57 rfl ty3 (by decide) (F.t 3 rfl) rfl) fun a F => ?_
  refine lp rfl ?_
  refine w_store 3 H ty3 rfl (F.t 26 rfl) rfl rfl (one1 rfl rfl) (by first | decide | exact Nat.le_of_ble_eq_true rfl) ?_
  clear H; intro w H
  refine wn (hK10 _ _ (sr fun _ hK11 => la F rfl (x_faddr Tryz.underlying93 rfl ty64 (by decide) (F.t 1 rfl) rfl) fun a F => la F rfl (x_loadn (cs := #[.string (strOfNums o.timer.name), .int .i64 o.timer.ver, .int .u64 o.timer.tick, .int .u64 o.timer.every, .slice Ao0 o.timer.steps.length co0]) ty64 (F.t 27 rfl) rfl (blk_sub (H.at 1 rfl) 6 5 rfl)) fun a F => ?_))
  refine lp rfl ?_
  refine w_alloc 4 F H rfl ty64 ?_
  clear F H; intro a w b4 F H
  refine lp rfl ?_
  refine w_storeA 4 H ty64 rfl (F.t 4 rfl) (F.t 28 rfl) rfl (by simp [Value.cells, Value.oneCell']) rfl ?_
  clear H; intro w H
  refine wn (hK11 _ _ (sr fun _ hK12 => la F rfl (x_faddr Tryz.underlying64 rfl ty3 (by decide) (F.t 4 rfl) rfl) fun a F => ?_))
  refine lp rfl ?_
  refine w_store 4 H ty3 rfl (F.t 29 rfl) rfl rfl (one1 rfl rfl) (by first | decide | exact Nat.le_of_ble_eq_true rfl) ?_
  clear H; intro w H
  refine wn (hK12 _ _ ?_)
  refine wp_region_lit ?_
  refine la F rfl (x_loadn ty64 (F.t 4 rfl) rfl (blk_whole (H.at 4 rfl))) fun a F => la F rfl (x_buildS (cells := #[.int .i64 3, .string (strOfNums []), .string (strOfNums []), .string (strOfNums o.timer.name), .int .i64 1, .int .u64 o.timer.tick, .int .u64 o.timer.every, .slice Ao0 o.timer.steps.length co0]) (places := #[(0, 1), (1, 1), (2, 1), (3, 5)]) Tryz.underlying66 ty66 (by kernel_rfl) (by simp only [bM, F.t 31 rfl] <;> rfl) (by first | (simp [Instr.fill, Value.cells]; done) | rfl)) fun a F => ?_
  refine lp rfl ?_
  refine w_call F (x_enter Tryz.func29 (by kernel_rfl) rfl (by simp only [bM, F.t 32 rfl] <;> rfl)) (encC_calls (c := armC o) _ (H.holds 990 _ rfl) ((H.rd 900 rfl)) (armC_B hb)) rfl rfl ?_
  rintro _ w ⟨vr33, rfl, hm_, hr_⟩; refine ⟨_, rfl, ?_⟩; clear F; intro a F; have H := Hp.rowOut H 33 hm_ hr_; obtain ⟨Ar33, cr33, rfl⟩ := (H.row 33 rfl).form
  refine la F rfl (x_move (F.t 33 rfl)) fun a F => la F rfl (x_extract (F.t 30 rfl) rfl) fun a F => ?_
  have H := H.freeze 33 rfl (fun kb => (Value.slice Ar33 (encC (armC o)).length cr33).ownBlock = some kb) (fun kb => ⟨fun h => .inr h, fun h => h.resolve_left id⟩)
  refine la F rfl (x_extract (F.t 30 rfl) rfl) fun a F => la F rfl (x_faddr Tryz.underlying57 rfl ty27 (by decide) (F.t 3 rfl) rfl) fun a F => ?_
  refine lp rfl ?_
  refine w_store 3 H ty27 rfl (F.t 36 rfl) (F.t 34 rfl) rfl (one1 rfl rfl) (by first | decide | exact Nat.le_of_ble_eq_true rfl) ?_
  clear H; intro w H
  refine wn (hK3 _ _ (sr fun _ hK13 => la F rfl (x_faddr Tryz.underlying93 rfl ty88 (by decide) (F.t 1 rfl) rfl) fun a F => la F rfl (x_load1 ty88 (F.t 38 rfl) (blk_cell (H.at 1 rfl) 0 rfl)) fun a F => la F rfl (x_conv Tryz.underlying5 ⟨_, Tryz.underlying88⟩ (F.t 39 rfl) (wu8 (by have := (op_kind hb ho); omega) (by have := (op_kind hb ho); omega))) fun a F => ?_))
  refine lp rfl ?_
  refine w_lit 41 (enc := Value.int .u8) (h1 := fun _ => rfl) ([o.kind]) F H rfl Tryz.underlying27 ty5 (by simp only [bM, F.t 40 rfl]; rfl) rfl (by decide) (by decide) (by kernel_rfl) ?_
  clear F H; intro a w b41 F H
  have H := H.freeze 41 rfl (fun kb => (Value.slice (some ⟨b41, 0, none⟩) ([o.kind]).length ([o.kind]).length).ownBlock = some kb) (fun kb => ⟨fun h => .inr h, fun h => h.resolve_left id⟩)
  refine la F rfl (x_buildS (cells := #[.int .i64 1, .slice (some ⟨b41, 0, none⟩) ([o.kind]).length ([o.kind]).length]) (places := #[(0, 1), (1, 1)]) Tryz.underlying57 ty57 (by kernel_rfl) (by simp only [bM, F.t 41 rfl] <;> rfl) rfl) fun a F => la F rfl (x_loadn ty57 (F.t 3 rfl) rfl (blk_whole (H.at 3 rfl))) fun a F => ?_
  refine lp rfl ?_
  refine w_litE 44 FE ([((1, [o.kind]) : Fld), ((4, (encC (armC o))) : Fld)]) #[.int .i64 1, .slice (some ⟨b41, 0, none⟩) ([o.kind]).length ([o.kind]).length, .int .i64 4, .slice Ar33 (encC (armC o)).length cr33] (fun kb => (fun kb => (Value.slice (some ⟨b41, 0, none⟩) ([o.kind]).length ([o.kind]).length).ownBlock = some kb) kb ∨ (fun kb => (Value.slice Ar33 (encC (armC o)).length cr33).ownBlock = some kb) kb) F H rfl Tryz.underlying60 ty57 (by simp only [bM, F.t 42 rfl, F.t 43 rfl] <;> rfl) rfl (by decide) (by decide) (by kernel_rfl) ((Elems.single (fld_mk (f := ((1, [o.kind]) : Fld)) (((H.rd 41 rfl)).move (fun _ _ _ => rfl) (fun k h _ => .inl h)))).append (Elems.single (fld_mk (f := ((4, (encC (armC o))) : Fld)) (((H.rd 33 rfl)).move (fun _ _ _ => rfl) (fun k h _ => .inr h))))) (fun kb hk => hk.elim (fun h => ⟨41, _, rfl, h⟩) (fun h => ⟨33, _, rfl, h⟩)) ?_
  clear F H; intro a w b44 F H
  refine lp rfl ?_
  refine w_call F (x_enter Tryz.func30 (by kernel_rfl) rfl (by simp only [bM, F.t 44 rfl] <;> rfl)) (enc_at (Row.rd (ok' := fun k_ => (fun kb => (fun kb => (Value.slice (some ⟨b41, 0, none⟩) ([o.kind]).length ([o.kind]).length).ownBlock = some kb) kb ∨ (fun kb => (Value.slice Ar33 (encC (armC o)).length cr33).ownBlock = some kb) kb) k_ ∨ (.slice (some ⟨b44, 0, none⟩) ([((1, [o.kind]) : Fld), ((4, (encC (armC o))) : Fld)]).length ([((1, [o.kind]) : Fld), ((4, (encC (armC o))) : Fld)]).length : Value).ownBlock = some k_) (H.row 44 rfl) (fun _ hk_ _ => .inl hk_) (fun _ hk_ => .inr hk_)) (by rw [opF_3 hc13 hc24]; exact op_encR hb ho)) rfl rfl ?_
  rintro _ w ⟨vr45, rfl, hm_, hr_⟩; refine ⟨_, rfl, ?_⟩; clear F; intro a F; have H := Hp.rowOut H 45 hm_ hr_; obtain ⟨Ar45, cr45, rfl⟩ := (H.row 45 rfl).form
  refine la F rfl (x_move (F.t 45 rfl)) fun a F => la F rfl (x_extract (F.t 37 rfl) rfl) fun a F => la F rfl (x_extract (F.t 37 rfl) rfl) fun a F => la F rfl (x_assign (F.t 46 rfl)) fun a F => la F rfl (x_assign (F.t 47 rfl)) fun a F => wn (hK13 _ _ (sr fun _ hK14 => la F rfl (x_move (F.t 5 rfl)) fun a F => ?_))
  refine la F rfl (x_assign (F.t 48 rfl)) fun a F => wn (hK14 _ _ ?_)
  refine wp_ret ?_
  try simp only [Exit.then, Exit.inBlock]
  exact fin_ret F (res1 F rfl rfl) ⟨_, rfl, H.mods, Hp.out H 45 rfl⟩
 have hk24_4 := hc24; try simp only [bL] at hc24
 refine wp_skip (hK3 _ _ (sr fun _ hK15 => la F rfl (x_faddr Tryz.underlying93 rfl ty88 (by decide) (F.t 1 rfl) rfl) fun a F => la F rfl (x_load1 ty88 (F.t 38 rfl) (blk_cell (H.at 1 rfl) 0 rfl)) fun a F => la F rfl (x_conv Tryz.underlying5 ⟨_, Tryz.underlying88⟩ (F.t 39 rfl) (wu8 (by have := (op_kind hb ho); omega) (by have := (op_kind hb ho); omega))) fun a F => ?_))
 refine lp rfl ?_
 refine w_lit 41 (enc := Value.int .u8) (h1 := fun _ => rfl) ([o.kind]) F H rfl Tryz.underlying27 ty5 (by simp only [bM, F.t 40 rfl]; rfl) rfl (by decide) (by decide) (by kernel_rfl) ?_
 clear F H; intro a w b41 F H
 have H := H.freeze 41 rfl (fun kb => (Value.slice (some ⟨b41, 0, none⟩) ([o.kind]).length ([o.kind]).length).ownBlock = some kb) (fun kb => ⟨fun h => .inr h, fun h => h.resolve_left id⟩)
 refine la F rfl (x_buildS (cells := #[.int .i64 1, .slice (some ⟨b41, 0, none⟩) ([o.kind]).length ([o.kind]).length]) (places := #[(0, 1), (1, 1)]) Tryz.underlying57 ty57 (by kernel_rfl) (by simp only [bM, F.t 41 rfl] <;> rfl) rfl) fun a F => la F rfl (x_loadn ty57 (F.t 3 rfl) rfl (blk_whole (H.at 3 rfl))) fun a F => ?_
 refine lp rfl ?_
 refine w_litE 44 FE ([((1, [o.kind]) : Fld), ((2, o.key) : Fld)]) #[.int .i64 1, .slice (some ⟨b41, 0, none⟩) ([o.kind]).length ([o.kind]).length, .int .i64 2, .slice (some ⟨b9, 0, none⟩) o.key.length c9] (fun kb => (fun kb => (Value.slice (some ⟨b41, 0, none⟩) ([o.kind]).length ([o.kind]).length).ownBlock = some kb) kb ∨ (fun kb => kb = b9) kb) F H rfl Tryz.underlying60 ty57 (by simp only [bM, F.t 42 rfl, F.t 43 rfl] <;> rfl) rfl (by decide) (by decide) (by kernel_rfl) ((Elems.single (fld_mk (f := ((1, [o.kind]) : Fld)) (((H.rd 41 rfl)).move (fun _ _ _ => rfl) (fun k h _ => .inl h)))).append (Elems.single (fld_mk (f := ((2, o.key) : Fld)) (((H.rd 9 rfl)).move (fun _ _ _ => rfl) (fun k h _ => .inr h))))) (fun kb hk => hk.elim (fun h => ⟨41, _, rfl, h⟩) (fun h => ⟨9, _, rfl, h⟩)) ?_
 clear F H; intro a w b44 F H
 refine lp rfl ?_
 refine w_call F (x_enter Tryz.func30 (by kernel_rfl) rfl (by simp only [bM, F.t 44 rfl] <;> rfl)) (enc_at (Row.rd (ok' := fun k_ => (fun kb => (fun kb => (Value.slice (some ⟨b41, 0, none⟩) ([o.kind]).length ([o.kind]).length).ownBlock = some kb) kb ∨ (fun kb => kb = b9) kb) k_ ∨ (.slice (some ⟨b44, 0, none⟩) ([((1, [o.kind]) : Fld), ((2, o.key) : Fld)]).length ([((1, [o.kind]) : Fld), ((2, o.key) : Fld)]).length : Value).ownBlock = some k_) (H.row 44 rfl) (fun _ hk_ _ => .inl hk_) (fun _ hk_ => .inr hk_)) (by rw [opF_1 hc13 hc24]; exact op_encR hb ho)) rfl rfl ?_
 rintro _ w ⟨vr45, rfl, hm_, hr_⟩; refine ⟨_, rfl, ?_⟩; clear F; intro a F; have H := Hp.rowOut H 45 hm_ hr_; obtain ⟨Ar45, cr45, rfl⟩ := (H.row 45 rfl).form
 refine la F rfl (x_move (F.t 45 rfl)) fun a F => la F rfl (x_extract (F.t 37 rfl) rfl) fun a F => la F rfl (x_extract (F.t 37 rfl) rfl) fun a F => la F rfl (x_assign (F.t 46 rfl)) fun a F => la F rfl (x_assign (F.t 47 rfl)) fun a F => wn (hK15 _ _ (sr fun _ hK16 => la F rfl (x_move (F.t 5 rfl)) fun a F => ?_))
 refine la F rfl (x_assign (F.t 48 rfl)) fun a F => wn (hK16 _ _ ?_)
 refine wp_ret ?_
 try simp only [Exit.then, Exit.inBlock]
 exact fin_ret F (res1 F rfl rfl) ⟨_, rfl, H.mods, Hp.out H 45 rfl⟩
theorem encQ_calls (w0 : World) {pp : Bool} (hL : LibAt pp w0) {r : SReqD} {okr0 : Nat → Prop} {Ar0 : Option Addr} {cr0 : Nat} (hrr0 : Rd OpdE w0 okr0 Ar0 r.ops cr0) (hb : SReqB r) : Calls Tryz.prog 16 #[.agg #[.string (strOfNums r.client), .int .i64 r.num, .slice Ar0 r.ops.length cr0]] w0 fun e w' => ∃ v, e = .returned (.tuple #[v, .int .i64 (encQE r)]) ∧ Mods (fun _ => False) w0 w' ∧ RowOut (.int .u8) 5 w0 w' v (encQ r) := by
 refine cow Tryz.func16 rfl Tryz.ntmps16 (Nat.le_of_ble_eq_true rfl) fun a F => ?_
 have H := Hp.nil (fun _ => False) w0
 have H := H.arg 900 hrr0.all (fun _ h => ⟨h, fun h => h⟩)
 have hler0 := hrr0.le; unfold maxLen at hler0
 have H := H.libN 990 hL
 refine sr fun _ hK1 => ?_
 refine lp rfl ?_
 refine w_box 1 F H rfl (F.t 0 rfl) ?_
 clear F H; intro a w b1 F H
 refine la F rfl (x_assign rfl) fun a F => la F rfl (x_assign rfl) fun a F => wn (hK1 _ _ ?_)
 refine wp_seq_k fun _ hK2 => ?_
 refine sr fun _ hK3 => la F rfl (x_loadn ty39 (F.t 1 rfl) rfl (blk_whole (H.at 1 rfl))) fun a F => ?_
 refine lp rfl ?_
 refine w_call F (x_enter Tryz.func25 (by kernel_rfl) rfl (by simp only [bM, F.t 10 rfl] <;> rfl)) (rightQ_calls (r := r) _ (H.holds 990 _ rfl) ((H.rd 900 rfl)) hb) rfl rfl ?_
 rintro _ w ⟨rfl, hm_⟩; refine ⟨_, rfl, ?_⟩; clear F; intro a F; have H := H.same hm_
 refine la F rfl (x_not (F.t 11 rfl)) fun a F => wn (hK3 _ _ ?_)
 refine wp_cond_split (F.t 12 rfl) (fun hc12 => ?_) (fun hc12 => ?_)
 ·have hk12_1 := hc12; try simp only [bL] at hc12
  have hz : rightQ r = false := by simpa using hc12
  refine sr fun _ hK4 => la F rfl (x_assign rfl) fun a F => la F rfl (x_assign rfl) fun a F => wn (hK4 _ _ ?_)
  refine wp_ret ?_
  try simp only [Exit.then, Exit.inBlock]
  exact fin_ret F (res2 F rfl rfl rfl) ⟨.slice none 0 0, by rw [encQE_no hz] <;> rfl, H.mods, by rw [encQ_no hz]; exact RowOut.nil _ _ _ _⟩
 have hk12_2 := hc12; try simp only [bL] at hc12
 have hr : rightQ r = true := by simpa using hc12
 refine wp_skip (hK2 _ _ ?_)
 refine wp_seq_k fun _ hK5 => ?_
 refine r_start [(1, .blk b1 (.cells #[.string (strOfNums r.client), .int .i64 r.num, .slice Ar0 r.ops.length cr0] 39 (0, 0)))] (by kernel_rfl) H fun H => ?_
 have hS : SL [(1, .blk b1 (.cells #[.string (strOfNums r.client), .int .i64 r.num, .slice Ar0 r.ops.length cr0] 39 (0, 0)))] _ := SL.of H (sub_cons (sub_nil _) 1 rfl)
 refine rT 0 F rfl (by kernel_rfl) pq rfl hS (fun w hS => x_faddr Tryz.underlying39 rfl ty9 (by decide) (F.t 1 rfl) rfl) rfl fun a F => ?_
 refine rT 1 F rfl (by kernel_rfl) pq rfl hS (fun w hS => x_load1 ty9 (F.t 13 rfl) (blk_cell (SL.at_ hS 1 rfl) 0 rfl)) rfl fun a F => ?_
 refine rT 4 F rfl (by kernel_rfl) pq rfl hS (fun w hS => x_faddr Tryz.underlying39 rfl ty3 (by decide) (F.t 1 rfl) rfl) rfl fun a F => ?_
 refine rT 5 F rfl (by kernel_rfl) pq rfl hS (fun w hS => x_load1 ty3 (F.t 17 rfl) (blk_cell (SL.at_ hS 1 rfl) 1 rfl)) rfl fun a F => ?_
 refine rT 6 F rfl (by kernel_rfl) pq rfl hS (fun w hS => x_conv Tryz.underlying59 ⟨_, Tryz.underlying3⟩ (F.t 18 rfl) (wu64 (by have := (rightQ_parts hr); omega) (by have := (rightQ_parts hr); omega))) rfl fun a F => ?_
 refine r_do2 2 7 rfl rfl (by kernel_rfl) rfl rfl rfl rfl ?_ ?_
 ·
  refine w_s2b 15 (xs := r.client) F H rfl Tryz.underlying9 Tryz.underlying27 Tryz.underlying5 (F.t 14 rfl) hb.client (by have := (rightQ_parts hr); omega) ?_
  clear F H; intro a w b15 c15 hb15_ F H
  refine aN (SL.of H (sub_cons (sub_nil _) 1 rfl)) fun hS => ?_
  refine rT 3 F rfl (by kernel_rfl) pq rfl hS (fun w hS => x_buildS (cells := #[.int .i64 1, .slice (some ⟨b15, 0, none⟩) r.client.length c15]) (places := #[(0, 1), (1, 1)]) Tryz.underlying57 ty57 (by kernel_rfl) (by simp only [bM, F.t 15 rfl] <;> rfl) rfl) rfl fun a F => ?_
  refine r_do 7 rfl (by kernel_rfl) rfl rfl ?_
  refine w_call F (x_enter Tryz.func28 (by kernel_rfl) rfl (by simp only [bM, F.t 19 rfl] <;> rfl)) (bI_calls _ (by have := (rightQ_parts hr); exact ⟨by omega, by omega⟩)) rfl rfl ?_
  rintro _ w ⟨vr20, rfl, hm_, hr_⟩; refine ⟨_, rfl, ?_⟩; clear F; intro a F; have H := Hp.rowOut H 20 hm_ hr_; obtain ⟨Ar20, cr20, rfl⟩ := (H.row 20 rfl).form
  refine aN (SL.of H (sub_cons (sub_nil _) 1 rfl)) fun hS => ?_
  have H := H.freeze 20 rfl (fun kb => (Value.slice Ar20 (bI r.num).length cr20).ownBlock = some kb) (fun kb => ⟨fun h => .inr h, fun h => h.resolve_left id⟩)
  refine rT 8 F rfl (by kernel_rfl) pq rfl hS (fun w hS => x_buildS (cells := #[.int .i64 2, .slice Ar20 (bI r.num).length cr20]) (places := #[(0, 1), (1, 1)]) Tryz.underlying57 ty57 (by kernel_rfl) (by simp only [bM, F.t 20 rfl] <;> rfl) rfl) rfl fun a F => ?_
  refine r_do 9 rfl (by kernel_rfl) rfl rfl ?_
  refine w_litE 4 FE ([((1, r.client) : Fld), ((2, bI r.num) : Fld)]) #[.int .i64 1, .slice (some ⟨b15, 0, none⟩) r.client.length c15, .int .i64 2, .slice Ar20 (bI r.num).length cr20] (fun kb => (fun kb => kb = b15) kb ∨ (fun kb => (Value.slice Ar20 (bI r.num).length cr20).ownBlock = some kb) kb) F H rfl Tryz.underlying60 ty57 (by simp only [bM, F.t 16 rfl, F.t 21 rfl] <;> rfl) rfl (by decide) (by decide) (by kernel_rfl) ((Elems.single (fld_mk (f := ((1, r.client) : Fld)) (((H.rd 15 rfl)).move (fun _ _ _ => rfl) (fun k h _ => .inl h)))).append (Elems.single (fld_mk (f := ((2, bI r.num) : Fld)) (((H.rd 20 rfl)).move (fun _ _ _ => rfl) (fun k h _ => .inr h))))) (fun kb hk => hk.elim (fun h => ⟨15, _, rfl, h⟩) (fun h => ⟨20, _, rfl, h⟩)) ?_
  clear F H; intro a w b22 F H
  refine aN (SL.of H (sub_cons (sub_nil _) 1 rfl)) fun hS => ?_
  refine rT 10 F rfl (by kernel_rfl) pq rfl hS (fun w hS => x_assign (F.t 22 rfl)) rfl fun a F => ?_
  refine r_end (by kernel_rfl) ?_; clear hS
  refine hK5 _ _ ?_
  refine wp_seq_k fun _ hK6 => ?_
  refine sr fun _ hK7 => la F rfl (x_faddr Tryz.underlying39 rfl ty37 (by decide) (F.t 1 rfl) rfl) fun a F => la F rfl (x_load1 ty37 (F.t 23 rfl) (blk_cell (H.at 1 rfl) 2 rfl)) fun a F => la F rfl (x_len_slice Tryz.underlying37 (F.t 24 rfl)) fun a F => la F rfl (x_move rfl) fun a F => wn (hK7 _ _ (wp_block ?_))
  refine wp_loop_ghost (fun n_ a w => ∃ k : Nat, ∃ v4 : Value, ∃ okv : Nat → Prop, n_ = r.ops.length - k ∧ (k ≤ r.ops.length) ∧ Fr 59 a [(4, v4), (24, .slice Ar0 r.ops.length cr0), (25, .int .i64 (r.ops.length : Int)), (26, .int .i64 (k : Int))] ∧ Hp (fun _ => False) w0 w [(900, .rd_ OpdE Ar0 r.ops cr0 (fun k => k < w0.heap.size)), (990, .lib pp), (1, .blk b1 (.cells #[.string (strOfNums r.client), .int .i64 r.num, .slice Ar0 r.ops.length cr0] 39 (0, 0))), (15, .rd_ (.int .u8) (some ⟨b15, 0, none⟩) r.client c15 (fun kb => kb = b15)), (20, .rd_ (.int .u8) Ar20 (bI r.num) cr20 (fun kb => (Value.slice Ar20 (bI r.num).length cr20).ownBlock = some kb)), (4, .row FE 57 v4 ([((1, r.client) : Fld), ((2, bI r.num) : Fld)] ++ (r.ops.take k).map (fun o => ((3, opI o) : Fld))) okv)]) (r.ops.length) ?_ ?_
  ·exact ⟨0, .slice (some ⟨b22, 0, none⟩) ([((1, r.client) : Fld), ((2, bI r.num) : Fld)]).length ([((1, r.client) : Fld), ((2, bI r.num) : Fld)]).length, (fun kb => (fun kb => kb = b15) kb ∨ (fun kb => (Value.slice Ar20 (bI r.num).length cr20).ownBlock = some kb) kb), rfl, by omega, ((((F.bare.add F 26 rfl).add F 25 rfl).add F 24 rfl).add F 4 rfl), H.sub _ (sub_cons (sub_cons (sub_cons (sub_cons (sub_cons (sub_cons (sub_nil _) 4 rfl) 20 rfl) 15 rfl) 1 rfl) 990 rfl) 900 rfl)⟩
  rintro _ a w ⟨k, v4, okv, rfl, hq0_0, F, H⟩
  refine sr fun _ hK8 => la F rfl (x_lss (F.t 26 rfl) (F.t 25 rfl)) fun a F => wn (hK8 _ _ ?_)
  refine wp_seq_k fun _ hK9 => ?_
  refine wp_cond_split (F.t 27 rfl) (fun hc27 => ?_) (fun hc27 => ?_)
  ·have hk27_3 := hc27; try simp only [bL] at hc27
   refine wp_skip (hK9 _ _ ?_)
   refine wp_seq_k fun _ hK10 => ?_
   refine wp_block (sr fun _ hK11 => ?_)
   obtain ⟨fA1, fc1, hfr1, hf1_0, hf1_1, hf1_2, hf1_3, hf1_4, hf1_5, hf1_6, hf1_7, hf1_8, hf1_9, hf1_10, hfw1⟩ := rd_opd ((H.rd 900 rfl)) (gopd_some (xs := r.ops) (i := (k : Int)) (by omega) (by omega))
   have H := H.subrd 900 rfl 1010 hfr1 (fun _ h => h)
   have H := H.subcels 900 rfl 1499 hfw1 (Rd.inok ((H.rd 900 rfl)) (by omega) _)
   have H := H.subcel 900 rfl 1500 hf1_0 (Rd.inok ((H.rd 900 rfl)) (by omega) _)
   have H := H.subcel 900 rfl 1501 hf1_1 (Rd.inok ((H.rd 900 rfl)) (by omega) _)
   have H := H.subcel 900 rfl 1502 hf1_2 (Rd.inok ((H.rd 900 rfl)) (by omega) _)
   have H := H.subcel 900 rfl 1503 hf1_3 (Rd.inok ((H.rd 900 rfl)) (by omega) _)
   have H := H.subcel 900 rfl 1504 hf1_4 (Rd.inok ((H.rd 900 rfl)) (by omega) _)
   have H := H.subcel 900 rfl 1505 hf1_5 (Rd.inok ((H.rd 900 rfl)) (by omega) _)
   have H := H.subcel 900 rfl 1506 hf1_6 (Rd.inok ((H.rd 900 rfl)) (by omega) _)
   have H := H.subcel 900 rfl 1507 hf1_7 (Rd.inok ((H.rd 900 rfl)) (by omega) _)
   have H := H.subcel 900 rfl 1508 hf1_8 (Rd.inok ((H.rd 900 rfl)) (by omega) _)
   have H := H.subcel 900 rfl 1509 hf1_9 (Rd.inok ((H.rd 900 rfl)) (by omega) _)
   have H := H.subcel 900 rfl 1510 hf1_10 (Rd.inok ((H.rd 900 rfl)) (by omega) _)
   have hmem := gopd_mem (xs := r.ops) (j := k) (by omega)
   refine la F rfl (x_iaddr_A Tryz.underlying37 ty93 ((H.rd 900 rfl)) (F.t 24 rfl) (F.t 26 rfl) (by omega) (by omega) _) fun a F => la F rfl (x_loadn ty93 (F.t 28 rfl) rfl (H.holds 1499 _ rfl)) fun a F => ?_
   refine lp rfl ?_
   refine w_alloc 6 F H rfl ty93 ?_
   clear F H; intro a w b6 F H
   refine lp rfl ?_
   refine w_storeA 6 H ty93 rfl (F.t 6 rfl) (F.t 29 rfl) rfl (by simp [Value.cells, Value.oneCell']) rfl ?_
   clear H; intro w H
   refine wn (hK11 _ _ ?_)
   refine wp_region_lit ?_
   refine la F rfl (x_move (F.t 4 rfl)) fun a F => la F rfl (x_loadn ty93 (F.t 6 rfl) rfl (blk_whole (H.at 6 rfl))) fun a F => ?_
   refine lp rfl ?_
   refine w_call F (x_enter Tryz.func54 (by kernel_rfl) rfl (by simp only [bM, F.t 31 rfl] <;> rfl)) (op_calls (o := (gopd r.ops (k : Int))) _ (H.holds 990 _ rfl) ((H.rd 1010 rfl)) (hb.ops _ hmem) (rightQ_op hb hr hmem)) rfl rfl ?_
   rintro _ w ⟨vr32, rfl, hm_, hr_⟩; refine ⟨_, rfl, ?_⟩; clear F; intro a F; have H := Hp.rowOut H 32 hm_ hr_; obtain ⟨Ar32, cr32, rfl⟩ := (H.row 32 rfl).form
   have H := H.freeze 32 rfl (fun kb => (Value.slice Ar32 (opI (gopd r.ops (k : Int))).length cr32).ownBlock = some kb) (fun kb => ⟨fun h => .inr h, fun h => h.resolve_left id⟩)
   refine la F rfl (x_buildS (cells := #[.int .i64 3, .slice Ar32 (opI (gopd r.ops (k : Int))).length cr32]) (places := #[(0, 1), (1, 1)]) Tryz.underlying57 ty57 (by kernel_rfl) (by simp only [bM, F.t 32 rfl] <;> rfl) rfl) fun a F => ?_
   refine lp rfl ?_
   refine w_lit1 34 FE ((3, (opI (gopd r.ops (k : Int)))) : Fld) #[.int .i64 3, .slice Ar32 (opI (gopd r.ops (k : Int))).length cr32] (fun kb => (Value.slice Ar32 (opI (gopd r.ops (k : Int))).length cr32).ownBlock = some kb) F H rfl Tryz.underlying60 ty57 (by simp only [bM, F.t 33 rfl] <;> rfl) (by decide) (by kernel_rfl) (fld_mk (f := ((3, (opI (gopd r.ops (k : Int)))) : Fld)) ((H.rd 32 rfl))) (fun kb hk => ⟨32, _, rfl, hk⟩) ?_
   clear F H; intro a w b34 F hb34_ H
   refine lp rfl ?_
   refine w_append 4 34 (xs := ([((1, r.client) : Fld), ((2, bI r.num) : Fld)] ++ (r.ops.take k).map (fun o => ((3, opI o) : Fld)))) (ys := ([((3, (opI (gopd r.ops (k : Int)))) : Fld)])) F H rfl Tryz.underlying60 ty57 rfl rfl rfl rfl ((H.rd 34 rfl)) oI (F.t 30 rfl) (F.t 34 rfl) (by have := (rightQ_parts hr); simp only [List.length_append, List.length_nil, List.length_cons, List.length_map, List.length_take] at *; omega) (by have := (rightQ_parts hr); simp only [List.length_append, List.length_nil, List.length_cons, List.length_map, List.length_take, maxLen] at *; omega) (fun kb => okv kb ∨ (fun kb => (fun kb => (Value.slice Ar32 (opI (gopd r.ops (k : Int))).length cr32).ownBlock = some kb) kb ∨ kb = b34) kb) (fun w' v' h => h) (by rintro k_ (hk_ | hk_); exact .inl hk_; exact .inr hk_) ?_
   clear F H; intro a w v35 F H
   refine la F rfl (x_assign (F.t 35 rfl)) fun a F => wn (hK10 _ _ ?_)
   refine wp_region_lit ?_
   refine la F rfl (x_add (F.t 26 rfl) rfl (w64 (by omega) (by omega))) fun a F => la F rfl (x_move (F.t 36 rfl)) fun a F => ?_
   refine wpList_nil ?_
   have hHs : Hp (fun _ => False) w0 w [(900, .rd_ OpdE Ar0 r.ops cr0 (fun k => k < w0.heap.size)), (990, .lib pp), (1, .blk b1 (.cells #[.string (strOfNums r.client), .int .i64 r.num, .slice Ar0 r.ops.length cr0] 39 (0, 0))), (15, .rd_ (.int .u8) (some ⟨b15, 0, none⟩) r.client c15 (fun kb => kb = b15)), (20, .rd_ (.int .u8) Ar20 (bI r.num) cr20 (fun kb => (Value.slice Ar20 (bI r.num).length cr20).ownBlock = some kb)), (4, .row FE 57 v35 (([((1, r.client) : Fld), ((2, bI r.num) : Fld)] ++ (r.ops.take k).map (fun o => ((3, opI o) : Fld))) ++ [((3, opI (gopd r.ops (k : Int))) : Fld)]) (fun kb => okv kb ∨ (fun kb => (fun kb => (Value.slice Ar32 (opI (gopd r.ops (k : Int))).length cr32).ownBlock = some kb) kb ∨ kb = b34) kb))] := H.sub _ (sub_cons (sub_cons (sub_cons (sub_cons (sub_cons (sub_cons (sub_nil _) 4 rfl) 20 rfl) 15 rfl) 1 rfl) 990 rfl) 900 rfl)
   rw [ops_stepL hc27] at hHs
   exact ⟨_, by omega, ⟨k + 1, v35, (fun kb => okv kb ∨ (fun kb => (fun kb => (Value.slice Ar32 (opI (gopd r.ops (k : Int))).length cr32).ownBlock = some kb) kb ∨ kb = b34) kb), rfl, by omega, ((((F.bare.add F 26 rfl).add F 25 rfl).add F 24 rfl).add F 4 rfl), hHs⟩⟩
  have hk27_4 := hc27; try simp only [bL] at hc27
  refine wp_exit ?_
  refine hK6 _ _ (sr fun _ hK12 => ?_)
  obtain rfl : k = r.ops.length := by omega
  rw [List.take_length] at H
  obtain ⟨Av, cv, rfl⟩ := (H.row 4 rfl).form
  rw [show ([((1, r.client) : Fld), ((2, bI r.num) : Fld)] ++ r.ops.map (fun o => ((3, opI o) : Fld))) = reqF r from rfl] at H
  refine la F rfl (x_move (F.t 4 rfl)) fun a F => ?_
  refine lp rfl ?_
  refine w_call F (x_enter Tryz.func30 (by kernel_rfl) rfl (by simp only [bM, F.t 38 rfl] <;> rfl)) (enc_at (Row.rd (ok' := fun k_ => okv k_ ∨ (.slice Av (reqF r).length cv : Value).ownBlock = some k_) (H.row 4 rfl) (fun _ hk_ _ => .inl hk_) (fun _ hk_ => .inr hk_)) (req_encR hb hr)) rfl rfl ?_
  rintro _ w ⟨vr39, rfl, hm_, hr_⟩; refine ⟨_, rfl, ?_⟩; clear F; intro a F; have H := Hp.rowOut H 39 hm_ hr_; obtain ⟨Ar39, cr39, rfl⟩ := (H.row 39 rfl).form
  refine la F rfl (x_move (F.t 39 rfl)) fun a F => la F rfl (x_extract (F.t 37 rfl) rfl) fun a F => la F rfl (x_extract (F.t 37 rfl) rfl) fun a F => la F rfl (x_assign (F.t 40 rfl)) fun a F => la F rfl (x_assign (F.t 41 rfl)) fun a F => wn (hK12 _ _ (sr fun _ hK13 => la F rfl (x_move (F.t 7 rfl)) fun a F => ?_))
  refine lp rfl ?_
  refine w_call F (x_enter Tryz.func31 (by kernel_rfl) rfl (by simp only [bM, F.t 42 rfl] <;> rfl)) (Crc.sum_calls _ (Row.rd (ok' := fun k_ => (fun _ => False) k_ ∨ (.slice Ar39 (encI (reqF r)).length cr39 : Value).ownBlock = some k_) (H.row 39 rfl) (fun _ hk_ _ => .inl hk_) (fun _ hk_ => .inr hk_))) rfl rfl ?_
  rintro _ w ⟨rfl, hm_⟩; refine ⟨_, rfl, ?_⟩; clear F; intro a F; have H := H.same hm_
  refine la F rfl (x_assign (F.t 43 rfl)) fun a F => wn (hK13 _ _ (sr fun _ hK14 => la F rfl (x_move (F.t 7 rfl)) fun a F => la F rfl (x_move (F.t 9 rfl)) fun a F => la F rfl (x_conv Tryz.underlying5 ⟨_, Tryz.underlying69⟩ (F.t 45 rfl) (IntKind.wrap_u8 _)) fun a F => la F rfl (x_move (F.t 9 rfl)) fun a F => la F rfl (x_shr (F.t 47 rfl) rfl (by omega) (shrU _).1) fun a F => ?_))
  refine la F rfl (x_conv Tryz.underlying5 ⟨_, Tryz.underlying69⟩ (F.t 48 rfl) (IntKind.wrap_u8 _)) fun a F => la F rfl (x_move (F.t 9 rfl)) fun a F => la F rfl (x_shr (F.t 50 rfl) rfl (by omega) (shrU _).2.1) fun a F => la F rfl (x_conv Tryz.underlying5 ⟨_, Tryz.underlying69⟩ (F.t 51 rfl) (IntKind.wrap_u8 _)) fun a F => la F rfl (x_move (F.t 9 rfl)) fun a F => la F rfl (x_shr (F.t 53 rfl) rfl (by omega) (shrU _).2.2) fun a F => la F rfl (x_conv Tryz.underlying5 ⟨_, Tryz.underlying69⟩ (F.t 54 rfl) (IntKind.wrap_u8 _)) fun a F => ?_
  refine lp rfl ?_
  refine w_lit 56 (enc := Value.int .u8) (h1 := fun _ => rfl) (le4 (Crc.moreI 0 (encI (reqF r)))) F H rfl Tryz.underlying27 ty5 (by simp only [bM, F.t 46 rfl, F.t 49 rfl, F.t 52 rfl, F.t 55 rfl]; rfl) rfl (by decide) (by decide) (by kernel_rfl) ?_
  clear F H; intro a w b56 F H
  refine lp rfl ?_
  refine w_append 39 56 (xs := (encI (reqF r))) (ys := (le4 (Crc.moreI 0 (encI (reqF r))))) F H rfl Tryz.underlying27 ty5 rfl rfl rfl rfl (Row.rd (ok' := fun k_ => (fun _ => False) k_ ∨ (.slice (some ⟨b56, 0, none⟩) ((le4 (Crc.moreI 0 (encI (reqF r))))).length ((le4 (Crc.moreI 0 (encI (reqF r))))).length : Value).ownBlock = some k_) (H.row 56 rfl) (fun _ hk_ _ => .inl hk_) (fun _ hk_ => .inr hk_)) (by rintro k_ (hk_ | hk_); exact .inr hk_; exact .inl hk_) (F.t 44 rfl) (F.t 56 rfl) (by have := reqI_len hb hr; simp only [le4, List.length_cons, List.length_nil]; omega) (by have := reqI_len hb hr; simp only [le4, List.length_cons, List.length_nil, maxLen]; omega) (fun _ => False) (fun w' v' h => row_flat h _) (fun k_ hk_ => hk_.elim) ?_
  clear F H; intro a w v57 F H
  refine la F rfl (x_move (F.t 8 rfl)) fun a F => la F rfl (x_assign (F.t 57 rfl)) fun a F => la F rfl (x_assign (F.t 58 rfl)) fun a F => wn (hK14 _ _ ?_)
  refine wp_ret ?_
  try simp only [Exit.then, Exit.inBlock]
  rw [encQ_yes hr] at H
  exact fin_ret F (res2 F rfl rfl rfl) ⟨_, by rw [encQE_yes hr] <;> rfl, H.mods, Hp.out H 39 rfl⟩
 ·
  refine w_call F (x_enter Tryz.func28 (by kernel_rfl) rfl (by simp only [bM, F.t 19 rfl] <;> rfl)) (bI_calls _ (by have := (rightQ_parts hr); exact ⟨by omega, by omega⟩)) rfl rfl ?_
  rintro _ w ⟨vr20, rfl, hm_, hr_⟩; refine ⟨_, rfl, ?_⟩; clear F; intro a F; have H := Hp.rowOut H 20 hm_ hr_; obtain ⟨Ar20, cr20, rfl⟩ := (H.row 20 rfl).form
  refine aN (SL.of H (sub_cons (sub_nil _) 1 rfl)) fun hS => ?_
  have H := H.freeze 20 rfl (fun kb => (Value.slice Ar20 (bI r.num).length cr20).ownBlock = some kb) (fun kb => ⟨fun h => .inr h, fun h => h.resolve_left id⟩)
  refine rT 8 F rfl (by kernel_rfl) pq rfl hS (fun w hS => x_buildS (cells := #[.int .i64 2, .slice Ar20 (bI r.num).length cr20]) (places := #[(0, 1), (1, 1)]) Tryz.underlying57 ty57 (by kernel_rfl) (by simp only [bM, F.t 20 rfl] <;> rfl) rfl) rfl fun a F => ?_
  refine r_do 2 rfl (by kernel_rfl) rfl rfl ?_
  refine w_s2b 15 (xs := r.client) F H rfl Tryz.underlying9 Tryz.underlying27 Tryz.underlying5 (F.t 14 rfl) hb.client (by have := (rightQ_parts hr); omega) ?_
  clear F H; intro a w b15 c15 hb15_ F H
  refine aN (SL.of H (sub_cons (sub_nil _) 1 rfl)) fun hS => ?_
  refine rT 3 F rfl (by kernel_rfl) pq rfl hS (fun w hS => x_buildS (cells := #[.int .i64 1, .slice (some ⟨b15, 0, none⟩) r.client.length c15]) (places := #[(0, 1), (1, 1)]) Tryz.underlying57 ty57 (by kernel_rfl) (by simp only [bM, F.t 15 rfl] <;> rfl) rfl) rfl fun a F => ?_
  refine r_do 9 rfl (by kernel_rfl) rfl rfl ?_
  refine w_litE 4 FE ([((1, r.client) : Fld), ((2, bI r.num) : Fld)]) #[.int .i64 1, .slice (some ⟨b15, 0, none⟩) r.client.length c15, .int .i64 2, .slice Ar20 (bI r.num).length cr20] (fun kb => (fun kb => kb = b15) kb ∨ (fun kb => (Value.slice Ar20 (bI r.num).length cr20).ownBlock = some kb) kb) F H rfl Tryz.underlying60 ty57 (by simp only [bM, F.t 16 rfl, F.t 21 rfl] <;> rfl) rfl (by decide) (by decide) (by kernel_rfl) ((Elems.single (fld_mk (f := ((1, r.client) : Fld)) (((H.rd 15 rfl)).move (fun _ _ _ => rfl) (fun k h _ => .inl h)))).append (Elems.single (fld_mk (f := ((2, bI r.num) : Fld)) (((H.rd 20 rfl)).move (fun _ _ _ => rfl) (fun k h _ => .inr h))))) (fun kb hk => hk.elim (fun h => ⟨15, _, rfl, h⟩) (fun h => ⟨20, _, rfl, h⟩)) ?_
  clear F H; intro a w b22 F H
  refine aN (SL.of H (sub_cons (sub_nil _) 1 rfl)) fun hS => ?_
  refine rT 10 F rfl (by kernel_rfl) pq rfl hS (fun w hS => x_assign (F.t 22 rfl)) rfl fun a F => ?_
  refine r_end (by kernel_rfl) ?_; clear hS
  refine hK5 _ _ ?_
  refine wp_seq_k fun _ hK15 => ?_
  refine sr fun _ hK16 => la F rfl (x_faddr Tryz.underlying39 rfl ty37 (by decide) (F.t 1 rfl) rfl) fun a F => la F rfl (x_load1 ty37 (F.t 23 rfl) (blk_cell (H.at 1 rfl) 2 rfl)) fun a F => la F rfl (x_len_slice Tryz.underlying37 (F.t 24 rfl)) fun a F => la F rfl (x_move rfl) fun a F => wn (hK16 _ _ (wp_block ?_))
  refine wp_loop_ghost (fun n_ a w => ∃ k : Nat, ∃ v4 : Value, ∃ okv : Nat → Prop, n_ = r.ops.length - k ∧ (k ≤ r.ops.length) ∧ Fr 59 a [(4, v4), (24, .slice Ar0 r.ops.length cr0), (25, .int .i64 (r.ops.length : Int)), (26, .int .i64 (k : Int))] ∧ Hp (fun _ => False) w0 w [(900, .rd_ OpdE Ar0 r.ops cr0 (fun k => k < w0.heap.size)), (990, .lib pp), (1, .blk b1 (.cells #[.string (strOfNums r.client), .int .i64 r.num, .slice Ar0 r.ops.length cr0] 39 (0, 0))), (20, .rd_ (.int .u8) Ar20 (bI r.num) cr20 (fun kb => (Value.slice Ar20 (bI r.num).length cr20).ownBlock = some kb)), (15, .rd_ (.int .u8) (some ⟨b15, 0, none⟩) r.client c15 (fun kb => kb = b15)), (4, .row FE 57 v4 ([((1, r.client) : Fld), ((2, bI r.num) : Fld)] ++ (r.ops.take k).map (fun o => ((3, opI o) : Fld))) okv)]) (r.ops.length) ?_ ?_
  ·exact ⟨0, .slice (some ⟨b22, 0, none⟩) ([((1, r.client) : Fld), ((2, bI r.num) : Fld)]).length ([((1, r.client) : Fld), ((2, bI r.num) : Fld)]).length, (fun kb => (fun kb => kb = b15) kb ∨ (fun kb => (Value.slice Ar20 (bI r.num).length cr20).ownBlock = some kb) kb), rfl, by omega, ((((F.bare.add F 26 rfl).add F 25 rfl).add F 24 rfl).add F 4 rfl), H.sub _ (sub_cons (sub_cons (sub_cons (sub_cons (sub_cons (sub_cons (sub_nil _) 4 rfl) 15 rfl) 20 rfl) 1 rfl) 990 rfl) 900 rfl)⟩
  rintro _ a w ⟨k, v4, okv, rfl, hq0_0, F, H⟩
  refine sr fun _ hK17 => la F rfl (x_lss (F.t 26 rfl) (F.t 25 rfl)) fun a F => wn (hK17 _ _ ?_)
  refine wp_seq_k fun _ hK18 => ?_
  refine wp_cond_split (F.t 27 rfl) (fun hc27 => ?_) (fun hc27 => ?_)
  ·have hk27_5 := hc27; try simp only [bL] at hc27
   refine wp_skip (hK18 _ _ ?_)
   refine wp_seq_k fun _ hK19 => ?_
   refine wp_block (sr fun _ hK20 => ?_)
   obtain ⟨fA1, fc1, hfr1, hf1_0, hf1_1, hf1_2, hf1_3, hf1_4, hf1_5, hf1_6, hf1_7, hf1_8, hf1_9, hf1_10, hfw1⟩ := rd_opd ((H.rd 900 rfl)) (gopd_some (xs := r.ops) (i := (k : Int)) (by omega) (by omega))
   have H := H.subrd 900 rfl 1010 hfr1 (fun _ h => h)
   have H := H.subcels 900 rfl 1499 hfw1 (Rd.inok ((H.rd 900 rfl)) (by omega) _)
   have H := H.subcel 900 rfl 1500 hf1_0 (Rd.inok ((H.rd 900 rfl)) (by omega) _)
   have H := H.subcel 900 rfl 1501 hf1_1 (Rd.inok ((H.rd 900 rfl)) (by omega) _)
   have H := H.subcel 900 rfl 1502 hf1_2 (Rd.inok ((H.rd 900 rfl)) (by omega) _)
   have H := H.subcel 900 rfl 1503 hf1_3 (Rd.inok ((H.rd 900 rfl)) (by omega) _)
   have H := H.subcel 900 rfl 1504 hf1_4 (Rd.inok ((H.rd 900 rfl)) (by omega) _)
   have H := H.subcel 900 rfl 1505 hf1_5 (Rd.inok ((H.rd 900 rfl)) (by omega) _)
   have H := H.subcel 900 rfl 1506 hf1_6 (Rd.inok ((H.rd 900 rfl)) (by omega) _)
   have H := H.subcel 900 rfl 1507 hf1_7 (Rd.inok ((H.rd 900 rfl)) (by omega) _)
   have H := H.subcel 900 rfl 1508 hf1_8 (Rd.inok ((H.rd 900 rfl)) (by omega) _)
   have H := H.subcel 900 rfl 1509 hf1_9 (Rd.inok ((H.rd 900 rfl)) (by omega) _)
   have H := H.subcel 900 rfl 1510 hf1_10 (Rd.inok ((H.rd 900 rfl)) (by omega) _)
   have hmem := gopd_mem (xs := r.ops) (j := k) (by omega)
   refine la F rfl (x_iaddr_A Tryz.underlying37 ty93 ((H.rd 900 rfl)) (F.t 24 rfl) (F.t 26 rfl) (by omega) (by omega) _) fun a F => la F rfl (x_loadn ty93 (F.t 28 rfl) rfl (H.holds 1499 _ rfl)) fun a F => ?_
   refine lp rfl ?_
   refine w_alloc 6 F H rfl ty93 ?_
   clear F H; intro a w b6 F H
   refine lp rfl ?_
   refine w_storeA 6 H ty93 rfl (F.t 6 rfl) (F.t 29 rfl) rfl (by simp [Value.cells, Value.oneCell']) rfl ?_
   clear H; intro w H
   refine wn (hK20 _ _ ?_)
   refine wp_region_lit ?_
   refine la F rfl (x_move (F.t 4 rfl)) fun a F => la F rfl (x_loadn ty93 (F.t 6 rfl) rfl (blk_whole (H.at 6 rfl))) fun a F => ?_
   refine lp rfl ?_
   refine w_call F (x_enter Tryz.func54 (by kernel_rfl) rfl (by simp only [bM, F.t 31 rfl] <;> rfl)) (op_calls (o := (gopd r.ops (k : Int))) _ (H.holds 990 _ rfl) ((H.rd 1010 rfl)) (hb.ops _ hmem) (rightQ_op hb hr hmem)) rfl rfl ?_
   rintro _ w ⟨vr32, rfl, hm_, hr_⟩; refine ⟨_, rfl, ?_⟩; clear F; intro a F; have H := Hp.rowOut H 32 hm_ hr_; obtain ⟨Ar32, cr32, rfl⟩ := (H.row 32 rfl).form
   have H := H.freeze 32 rfl (fun kb => (Value.slice Ar32 (opI (gopd r.ops (k : Int))).length cr32).ownBlock = some kb) (fun kb => ⟨fun h => .inr h, fun h => h.resolve_left id⟩)
   refine la F rfl (x_buildS (cells := #[.int .i64 3, .slice Ar32 (opI (gopd r.ops (k : Int))).length cr32]) (places := #[(0, 1), (1, 1)]) Tryz.underlying57 ty57 (by kernel_rfl) (by simp only [bM, F.t 32 rfl] <;> rfl) rfl) fun a F => ?_
   refine lp rfl ?_
   refine w_lit1 34 FE ((3, (opI (gopd r.ops (k : Int)))) : Fld) #[.int .i64 3, .slice Ar32 (opI (gopd r.ops (k : Int))).length cr32] (fun kb => (Value.slice Ar32 (opI (gopd r.ops (k : Int))).length cr32).ownBlock = some kb) F H rfl Tryz.underlying60 ty57 (by simp only [bM, F.t 33 rfl] <;> rfl) (by decide) (by kernel_rfl) (fld_mk (f := ((3, (opI (gopd r.ops (k : Int)))) : Fld)) ((H.rd 32 rfl))) (fun kb hk => ⟨32, _, rfl, hk⟩) ?_
   clear F H; intro a w b34 F hb34_ H
   refine lp rfl ?_
   refine w_append 4 34 (xs := ([((1, r.client) : Fld), ((2, bI r.num) : Fld)] ++ (r.ops.take k).map (fun o => ((3, opI o) : Fld)))) (ys := ([((3, (opI (gopd r.ops (k : Int)))) : Fld)])) F H rfl Tryz.underlying60 ty57 rfl rfl rfl rfl ((H.rd 34 rfl)) oI (F.t 30 rfl) (F.t 34 rfl) (by have := (rightQ_parts hr); simp only [List.length_append, List.length_nil, List.length_cons, List.length_map, List.length_take] at *; omega) (by have := (rightQ_parts hr); simp only [List.length_append, List.length_nil, List.length_cons, List.length_map, List.length_take, maxLen] at *; omega) (fun kb => okv kb ∨ (fun kb => (fun kb => (Value.slice Ar32 (opI (gopd r.ops (k : Int))).length cr32).ownBlock = some kb) kb ∨ kb = b34) kb) (fun w' v' h => h) (by rintro k_ (hk_ | hk_); exact .inl hk_; exact .inr hk_) ?_
   clear F H; intro a w v35 F H
   refine la F rfl (x_assign (F.t 35 rfl)) fun a F => wn (hK19 _ _ ?_)
   refine wp_region_lit ?_
   refine la F rfl (x_add (F.t 26 rfl) rfl (w64 (by omega) (by omega))) fun a F => la F rfl (x_move (F.t 36 rfl)) fun a F => ?_
   refine wpList_nil ?_
   have hHs : Hp (fun _ => False) w0 w [(900, .rd_ OpdE Ar0 r.ops cr0 (fun k => k < w0.heap.size)), (990, .lib pp), (1, .blk b1 (.cells #[.string (strOfNums r.client), .int .i64 r.num, .slice Ar0 r.ops.length cr0] 39 (0, 0))), (20, .rd_ (.int .u8) Ar20 (bI r.num) cr20 (fun kb => (Value.slice Ar20 (bI r.num).length cr20).ownBlock = some kb)), (15, .rd_ (.int .u8) (some ⟨b15, 0, none⟩) r.client c15 (fun kb => kb = b15)), (4, .row FE 57 v35 (([((1, r.client) : Fld), ((2, bI r.num) : Fld)] ++ (r.ops.take k).map (fun o => ((3, opI o) : Fld))) ++ [((3, opI (gopd r.ops (k : Int))) : Fld)]) (fun kb => okv kb ∨ (fun kb => (fun kb => (Value.slice Ar32 (opI (gopd r.ops (k : Int))).length cr32).ownBlock = some kb) kb ∨ kb = b34) kb))] := H.sub _ (sub_cons (sub_cons (sub_cons (sub_cons (sub_cons (sub_cons (sub_nil _) 4 rfl) 15 rfl) 20 rfl) 1 rfl) 990 rfl) 900 rfl)
   rw [ops_stepL hc27] at hHs
   exact ⟨_, by omega, ⟨k + 1, v35, (fun kb => okv kb ∨ (fun kb => (fun kb => (Value.slice Ar32 (opI (gopd r.ops (k : Int))).length cr32).ownBlock = some kb) kb ∨ kb = b34) kb), rfl, by omega, ((((F.bare.add F 26 rfl).add F 25 rfl).add F 24 rfl).add F 4 rfl), hHs⟩⟩
  have hk27_6 := hc27; try simp only [bL] at hc27
  refine wp_exit ?_
  refine hK15 _ _ (sr fun _ hK21 => ?_)
  obtain rfl : k = r.ops.length := by omega
  rw [List.take_length] at H
  obtain ⟨Av, cv, rfl⟩ := (H.row 4 rfl).form
  rw [show ([((1, r.client) : Fld), ((2, bI r.num) : Fld)] ++ r.ops.map (fun o => ((3, opI o) : Fld))) = reqF r from rfl] at H
  refine la F rfl (x_move (F.t 4 rfl)) fun a F => ?_
  refine lp rfl ?_
  refine w_call F (x_enter Tryz.func30 (by kernel_rfl) rfl (by simp only [bM, F.t 38 rfl] <;> rfl)) (enc_at (Row.rd (ok' := fun k_ => okv k_ ∨ (.slice Av (reqF r).length cv : Value).ownBlock = some k_) (H.row 4 rfl) (fun _ hk_ _ => .inl hk_) (fun _ hk_ => .inr hk_)) (req_encR hb hr)) rfl rfl ?_
  rintro _ w ⟨vr39, rfl, hm_, hr_⟩; refine ⟨_, rfl, ?_⟩; clear F; intro a F; have H := Hp.rowOut H 39 hm_ hr_; obtain ⟨Ar39, cr39, rfl⟩ := (H.row 39 rfl).form
  refine la F rfl (x_move (F.t 39 rfl)) fun a F => la F rfl (x_extract (F.t 37 rfl) rfl) fun a F => la F rfl (x_extract (F.t 37 rfl) rfl) fun a F => la F rfl (x_assign (F.t 40 rfl)) fun a F => la F rfl (x_assign (F.t 41 rfl)) fun a F => wn (hK21 _ _ (sr fun _ hK22 => la F rfl (x_move (F.t 7 rfl)) fun a F => ?_))
  refine lp rfl ?_
  refine w_call F (x_enter Tryz.func31 (by kernel_rfl) rfl (by simp only [bM, F.t 42 rfl] <;> rfl)) (Crc.sum_calls _ (Row.rd (ok' := fun k_ => (fun _ => False) k_ ∨ (.slice Ar39 (encI (reqF r)).length cr39 : Value).ownBlock = some k_) (H.row 39 rfl) (fun _ hk_ _ => .inl hk_) (fun _ hk_ => .inr hk_))) rfl rfl ?_
  rintro _ w ⟨rfl, hm_⟩; refine ⟨_, rfl, ?_⟩; clear F; intro a F; have H := H.same hm_
  refine la F rfl (x_assign (F.t 43 rfl)) fun a F => wn (hK22 _ _ (sr fun _ hK23 => la F rfl (x_move (F.t 7 rfl)) fun a F => la F rfl (x_move (F.t 9 rfl)) fun a F => la F rfl (x_conv Tryz.underlying5 ⟨_, Tryz.underlying69⟩ (F.t 45 rfl) (IntKind.wrap_u8 _)) fun a F => la F rfl (x_move (F.t 9 rfl)) fun a F => la F rfl (x_shr (F.t 47 rfl) rfl (by omega) (shrU _).1) fun a F => ?_))
  refine la F rfl (x_conv Tryz.underlying5 ⟨_, Tryz.underlying69⟩ (F.t 48 rfl) (IntKind.wrap_u8 _)) fun a F => la F rfl (x_move (F.t 9 rfl)) fun a F => la F rfl (x_shr (F.t 50 rfl) rfl (by omega) (shrU _).2.1) fun a F => la F rfl (x_conv Tryz.underlying5 ⟨_, Tryz.underlying69⟩ (F.t 51 rfl) (IntKind.wrap_u8 _)) fun a F => la F rfl (x_move (F.t 9 rfl)) fun a F => la F rfl (x_shr (F.t 53 rfl) rfl (by omega) (shrU _).2.2) fun a F => la F rfl (x_conv Tryz.underlying5 ⟨_, Tryz.underlying69⟩ (F.t 54 rfl) (IntKind.wrap_u8 _)) fun a F => ?_
  refine lp rfl ?_
  refine w_lit 56 (enc := Value.int .u8) (h1 := fun _ => rfl) (le4 (Crc.moreI 0 (encI (reqF r)))) F H rfl Tryz.underlying27 ty5 (by simp only [bM, F.t 46 rfl, F.t 49 rfl, F.t 52 rfl, F.t 55 rfl]; rfl) rfl (by decide) (by decide) (by kernel_rfl) ?_
  clear F H; intro a w b56 F H
  refine lp rfl ?_
  refine w_append 39 56 (xs := (encI (reqF r))) (ys := (le4 (Crc.moreI 0 (encI (reqF r))))) F H rfl Tryz.underlying27 ty5 rfl rfl rfl rfl (Row.rd (ok' := fun k_ => (fun _ => False) k_ ∨ (.slice (some ⟨b56, 0, none⟩) ((le4 (Crc.moreI 0 (encI (reqF r))))).length ((le4 (Crc.moreI 0 (encI (reqF r))))).length : Value).ownBlock = some k_) (H.row 56 rfl) (fun _ hk_ _ => .inl hk_) (fun _ hk_ => .inr hk_)) (by rintro k_ (hk_ | hk_); exact .inr hk_; exact .inl hk_) (F.t 44 rfl) (F.t 56 rfl) (by have := reqI_len hb hr; simp only [le4, List.length_cons, List.length_nil]; omega) (by have := reqI_len hb hr; simp only [le4, List.length_cons, List.length_nil, maxLen]; omega) (fun _ => False) (fun w' v' h => row_flat h _) (fun k_ hk_ => hk_.elim) ?_
  clear F H; intro a w v57 F H
  refine la F rfl (x_move (F.t 8 rfl)) fun a F => la F rfl (x_assign (F.t 57 rfl)) fun a F => la F rfl (x_assign (F.t 58 rfl)) fun a F => wn (hK23 _ _ ?_)
  refine wp_ret ?_
  try simp only [Exit.then, Exit.inBlock]
  rw [encQ_yes hr] at H
  exact fin_ret F (res2 F rfl rfl rfl) ⟨_, by rw [encQE_yes hr] <;> rfl, H.mods, Hp.out H 39 rfl⟩
theorem cloneS_calls (w0 : World) {ok : Nat → Prop} {A : Option Addr} {xs : List StepD} {c : Nat} (hr : Rd StE w0 ok A xs c) (hs : xs.length ≤ 100000000) : Calls Tryz.prog 59 #[.slice A xs.length c] w0 fun e w' => ∃ v, e = .returned v ∧ Mods (fun _ => False) w0 w' ∧ RowOut StE 91 w0 w' v xs := by
 refine cow Tryz.func59 rfl Tryz.ntmps59 (Nat.le_of_ble_eq_true rfl) fun a F => ?_
 have H := Hp.nil (fun _ => False) w0
 have H := H.arg 901 hr.all (fun _ h => ⟨h, fun h => h⟩)
 have hle901 := hr.le; unfold maxLen at hle901
 refine sr fun _ hK1 => la F rfl (x_assign rfl) fun a F => wn (hK1 _ _ ?_)
 refine wp_seq_k fun _ hK2 => ?_
 refine sr fun _ hK3 => la F rfl (x_move (F.t 0 rfl)) fun a F => la F rfl (x_slnil Tryz.underlying62 (F.t 3 rfl) rfl) fun a F => wn (hK3 _ _ ?_)
 refine wp_cond_split (F.t 4 rfl) (fun hc4 => ?_) (fun hc4 => ?_)
 ·have hk4_1 := hc4; try simp only [bL] at hc4
  have hnil := rd_nil hr hc4
  subst hnil
  refine sr fun _ hK4 => la F rfl (x_assign rfl) fun a F => wn (hK4 _ _ ?_)
  refine wp_ret ?_
  try simp only [Exit.then, Exit.inBlock]
  exact fin_ret F (res1 F rfl rfl) ⟨.slice none 0 0, rfl, H.mods, RowOut.nil _ _ _ _⟩
 have hk4_2 := hc4; try simp only [bL] at hc4
 refine wp_skip (hK2 _ _ (sr fun _ hK5 => ?_))
 refine lp rfl ?_
 refine w_lit0 StE 5 F H rfl Tryz.underlying62 ty91 ?_
 clear F H; intro a w b5 F H
 refine la F rfl (x_move (F.t 0 rfl)) fun a F => ?_
 refine lp rfl ?_
 refine w_append 5 901 (xs := ([])) (ys := xs) F H rfl Tryz.underlying62 ty91 rfl rfl rfl rfl ((H.rd 901 rfl)) oI (F.t 5 rfl) (F.t 6 rfl) (by simp only [lN] at *; omega) (by simp only [lN, maxLen] at *; omega) (fun _ => False) (fun w' v' h => st_any h) (fun k_ hk_ => hk_.elim) ?_
 clear F H; intro a w v7 F H
 refine la F rfl (x_assign (F.t 7 rfl)) fun a F => wn (hK5 _ _ ?_)
 refine wp_ret ?_
 try simp only [Exit.then, Exit.inBlock]
 rw [List.nil_append] at H
 exact fin_ret F (res1 F rfl rfl) ⟨_, rfl, H.mods, Hp.out H 5 rfl⟩
theorem mark_calls (w0 : World) {xs : List Int} (hl : xs.length ≤ 1000) : Calls Tryz.prog 53 #[.string (strOfNums xs)] w0 fun e w' => e = .returned (.string (strOfNums ([64] ++ xs))) ∧ Mods (fun _ => False) w0 w' := by
 refine cow Tryz.func53 rfl Tryz.ntmps53 (Nat.le_of_ble_eq_true rfl) fun a F => ?_
 have H := Hp.nil (fun _ => False) w0
 refine sr fun _ hK1 => la F rfl (x_assign (show _ = Value.string (strOfNums ([] : List Int)) by kernel_rfl)) fun a F => wn (hK1 _ _ (sr fun _ hK2 => la F rfl (x_move (F.t 0 rfl)) fun a F => la F rfl (x_adds (xs := ([64] : List Int)) (ys := xs) (show _ = Value.string (strOfNums ([64] : List Int)) by kernel_rfl) (F.t 3 rfl) (by simp only [lN]; omega)) fun a F => la F rfl (x_assign (F.t 4 rfl)) fun a F => wn (hK2 _ _ ?_)))
 refine wp_ret ?_
 try simp only [Exit.then, Exit.inBlock]
 exact fin_ret F (res1 F rfl rfl) ⟨rfl, H.mods⟩
theorem wrap_calls (w0 : World) {pp : Bool} (hL : LibAt pp w0) {r : SReqD} {okr0 : Nat → Prop} {Ar0 : Option Addr} {cr0 : Nat} (hrr0 : Rd OpdE w0 okr0 Ar0 r.ops cr0) (hb : SReqB r) : Calls Tryz.prog 23 #[.agg #[.string (strOfNums r.client), .int .i64 r.num, .slice Ar0 r.ops.length cr0]] w0 fun e w' => ∃ v, e = .returned v ∧ Mods (fun _ => False) w0 w' ∧ RowNew OpdE 93 w0 w' v (wrapL r) := by
 refine cow Tryz.func23 rfl Tryz.ntmps23 (Nat.le_of_ble_eq_true rfl) fun a F => ?_
 have H := Hp.nil (fun _ => False) w0
 have H := H.arg 900 hrr0.all (fun _ h => ⟨h, fun h => h⟩)
 have hler0 := hrr0.le; unfold maxLen at hler0
 have H := H.libN 990 hL
 refine sr fun _ hK1 => ?_
 refine lp rfl ?_
 refine w_box 1 F H rfl (F.t 0 rfl) ?_
 clear F H; intro a w b1 F H
 refine la F rfl (x_assign rfl) fun a F => wn (hK1 _ _ ?_)
 refine wp_seq_k fun _ hK2 => ?_
 refine sr fun _ hK3 => la F rfl (x_loadn ty39 (F.t 1 rfl) rfl (blk_whole (H.at 1 rfl))) fun a F => ?_
 refine lp rfl ?_
 refine w_call F (x_enter Tryz.func25 (by kernel_rfl) rfl (by simp only [bM, F.t 7 rfl] <;> rfl)) (rightQ_calls (r := r) _ (H.holds 990 _ rfl) ((H.rd 900 rfl)) hb) rfl rfl ?_
 rintro _ w ⟨rfl, hm_⟩; refine ⟨_, rfl, ?_⟩; clear F; intro a F; have H := H.same hm_
 refine la F rfl (x_not (F.t 8 rfl)) fun a F => wn (hK3 _ _ ?_)
 refine wp_cond_split (F.t 9 rfl) (fun hc9 => ?_) (fun hc9 => ?_)
 ·have hk9_1 := hc9; try simp only [bL] at hc9
  have hz : rightQ r = false := by simpa using hc9
  refine sr fun _ hK4 => la F rfl (x_assign rfl) fun a F => wn (hK4 _ _ ?_)
  refine wp_ret ?_
  try simp only [Exit.then, Exit.inBlock]
  exact fin_ret F (res1 F rfl rfl) ⟨.slice none 0 0, rfl, H.mods, by rw [wrapL_no hz]; exact RowNew.nil _ _ _ _⟩
 have hk9_2 := hc9; try simp only [bL] at hc9
 have hr : rightQ r = true := by simpa using hc9
 refine wp_skip (hK2 _ _ (sr fun _ hK5 => la F rfl (x_faddr Tryz.underlying39 rfl ty9 (by decide) (F.t 1 rfl) rfl) fun a F => la F rfl (x_load1 ty9 (F.t 10 rfl) (blk_cell (H.at 1 rfl) 0 rfl)) fun a F => ?_))
 refine lp rfl ?_
 refine w_call F (x_enter Tryz.func53 (by kernel_rfl) rfl (by simp only [bM, F.t 11 rfl] <;> rfl)) (mark_calls (xs := r.client) _ (by have := (rightQ_parts hr); omega)) rfl rfl ?_
 rintro _ w ⟨rfl, hm_⟩; refine ⟨_, rfl, ?_⟩; clear F; intro a F; have H := H.same hm_
 refine la F rfl (x_assign (F.t 12 rfl)) fun a F => wn (hK5 _ _ (sr fun _ hK6 => la F rfl (x_move (F.t 3 rfl)) fun a F => la F rfl (x_buildS (cells := #[.int .i64 1, .string (strOfNums ([64] ++ r.client)), .int .i64 0, .string (strOfNums []), .string (strOfNums []), .int .i64 0, .string (strOfNums []), .int .i64 0, .int .u64 0, .int .u64 0, .slice none 0 0]) (places := #[(0, 1), (1, 1), (2, 4), (6, 5)]) Tryz.underlying93 ty93 (by kernel_rfl) (by simp only [bM, F.t 13 rfl] <;> rfl) rfl) fun a F => ?_))
 refine lp rfl ?_
 refine w_litE 4 OpdE ([markO r]) #[.int .i64 1, .string (strOfNums ([64] ++ r.client)), .int .i64 0, .string (strOfNums []), .string (strOfNums []), .int .i64 0, .string (strOfNums []), .int .i64 0, .int .u64 0, .int .u64 0, .slice none 0 0] (fun _ => False) F H rfl Tryz.underlying37 ty93 (by simp only [bM, F.t 14 rfl] <;> rfl) rfl (by decide) (by decide) (by kernel_rfl) (Elems.single (opd_mk (markO r) (Rd.nil StE _ (fun _ => False)))) (fun kb hk => hk.elim) ?_
 clear F H; intro a w b15 F H
 refine la F rfl (x_assign (F.t 15 rfl)) fun a F => wn (hK6 _ _ ?_)
 refine wp_seq_k fun _ hK7 => ?_
 refine sr fun _ hK8 => la F rfl (x_faddr Tryz.underlying39 rfl ty37 (by decide) (F.t 1 rfl) rfl) fun a F => la F rfl (x_load1 ty37 (F.t 16 rfl) (blk_cell (H.at 1 rfl) 2 rfl)) fun a F => la F rfl (x_len_slice Tryz.underlying37 (F.t 17 rfl)) fun a F => la F rfl (x_move rfl) fun a F => wn (hK8 _ _ (wp_block ?_))
 refine wp_loop_ghost (fun n_ a w => ∃ k : Nat, ∃ v4 : Value, ∃ okv : Nat → Prop, n_ = r.ops.length - k ∧ (k ≤ r.ops.length) ∧ (∀ kb, okv kb → w0.heap.size ≤ kb) ∧ Fr 43 a [(1, .pointer (some ⟨b1, 0, none⟩)), (3, .string (strOfNums ([64] ++ r.client))), (4, v4), (17, .slice Ar0 r.ops.length cr0), (18, .int .i64 (r.ops.length : Int)), (19, .int .i64 (k : Int))] ∧ Hp (fun _ => False) w0 w [(900, .rd_ OpdE Ar0 r.ops cr0 (fun k => k < w0.heap.size)), (990, .lib pp), (1, .blk b1 (.cells #[.string (strOfNums r.client), .int .i64 r.num, .slice Ar0 r.ops.length cr0] 39 (0, 0))), (4, .row OpdE 93 v4 ([markO r] ++ r.ops.take k) okv)]) (r.ops.length) ?_ ?_
 ·exact ⟨0, .slice (some ⟨b15, 0, none⟩) ([markO r]).length ([markO r]).length, (fun _ => False), rfl, by omega, (fun kb h => h.elim), ((((((F.bare.add F 19 rfl).add F 18 rfl).add F 17 rfl).add F 4 rfl).add F 3 rfl).add F 1 rfl), H.sub _ (sub_cons (sub_cons (sub_cons (sub_cons (sub_nil _) 4 rfl) 1 rfl) 990 rfl) 900 rfl)⟩
 rintro _ a w ⟨k, v4, okv, rfl, hq0_0, hq0_1, F, H⟩
 refine sr fun _ hK9 => la F rfl (x_lss (F.t 19 rfl) (F.t 18 rfl)) fun a F => wn (hK9 _ _ ?_)
 refine wp_seq_k fun _ hK10 => ?_
 refine wp_cond_split (F.t 20 rfl) (fun hc20 => ?_) (fun hc20 => ?_)
 ·have hk20_3 := hc20; try simp only [bL] at hc20
  refine wp_skip (hK10 _ _ ?_)
  refine wp_seq_k fun _ hK11 => ?_
  refine wp_block (sr fun _ hK12 => ?_)
  obtain ⟨fA1, fc1, hfr1, hf1_0, hf1_1, hf1_2, hf1_3, hf1_4, hf1_5, hf1_6, hf1_7, hf1_8, hf1_9, hf1_10, hfw1⟩ := rd_opd ((H.rd 900 rfl)) (gopd_some (xs := r.ops) (i := (k : Int)) (by omega) (by omega))
  have H := H.subrd 900 rfl 1010 hfr1 (fun _ h => h)
  have H := H.subcels 900 rfl 1499 hfw1 (Rd.inok ((H.rd 900 rfl)) (by omega) _)
  have H := H.subcel 900 rfl 1500 hf1_0 (Rd.inok ((H.rd 900 rfl)) (by omega) _)
  have H := H.subcel 900 rfl 1501 hf1_1 (Rd.inok ((H.rd 900 rfl)) (by omega) _)
  have H := H.subcel 900 rfl 1502 hf1_2 (Rd.inok ((H.rd 900 rfl)) (by omega) _)
  have H := H.subcel 900 rfl 1503 hf1_3 (Rd.inok ((H.rd 900 rfl)) (by omega) _)
  have H := H.subcel 900 rfl 1504 hf1_4 (Rd.inok ((H.rd 900 rfl)) (by omega) _)
  have H := H.subcel 900 rfl 1505 hf1_5 (Rd.inok ((H.rd 900 rfl)) (by omega) _)
  have H := H.subcel 900 rfl 1506 hf1_6 (Rd.inok ((H.rd 900 rfl)) (by omega) _)
  have H := H.subcel 900 rfl 1507 hf1_7 (Rd.inok ((H.rd 900 rfl)) (by omega) _)
  have H := H.subcel 900 rfl 1508 hf1_8 (Rd.inok ((H.rd 900 rfl)) (by omega) _)
  have H := H.subcel 900 rfl 1509 hf1_9 (Rd.inok ((H.rd 900 rfl)) (by omega) _)
  have H := H.subcel 900 rfl 1510 hf1_10 (Rd.inok ((H.rd 900 rfl)) (by omega) _)
  have hmem := gopd_mem (xs := r.ops) (j := k) (by omega)
  refine la F rfl (x_iaddr_A Tryz.underlying37 ty93 ((H.rd 900 rfl)) (F.t 17 rfl) (F.t 19 rfl) (by omega) (by omega) _) fun a F => la F rfl (x_loadn ty93 (F.t 21 rfl) rfl (H.holds 1499 _ rfl)) fun a F => ?_
  refine lp rfl ?_
  refine w_alloc 6 F H rfl ty93 ?_
  clear F H; intro a w b6 F H
  refine lp rfl ?_
  refine w_storeA 6 H ty93 rfl (F.t 6 rfl) (F.t 22 rfl) rfl (by simp [Value.cells, Value.oneCell']) rfl ?_
  clear H; intro w H
  refine wn (hK12 _ _ (sr fun _ hK13 => la F rfl (x_faddr Tryz.underlying93 rfl ty64 (by decide) (F.t 6 rfl) rfl) fun a F => la F rfl (x_faddr Tryz.underlying64 rfl ty62 (by decide) (F.t 23 rfl) rfl) fun a F => la F rfl (x_load1 ty62 (F.t 24 rfl) (blk_cell (H.at 6 rfl) 10 rfl)) fun a F => ?_))
  refine lp rfl ?_
  refine w_call F (x_enter Tryz.func59 (by kernel_rfl) rfl (by simp only [bM, F.t 25 rfl] <;> rfl)) (cloneS_calls _ ((H.rd 1010 rfl)) (steps_few (hb.ops _ hmem) (rightQ_op hb hr hmem))) rfl rfl ?_
  rintro _ w ⟨vr26, rfl, hm_, hr_⟩; refine ⟨_, rfl, ?_⟩; clear F; intro a F; have H := Hp.rowOut H 26 hm_ hr_; obtain ⟨Ar26, cr26, rfl⟩ := (H.row 26 rfl).form
  have hfr26 : ∀ kb, (Value.slice Ar26 ((gopd r.ops (k : Int)).timer.steps).length cr26).ownBlock = some kb → w0.heap.size ≤ kb := fun kb h => (H.mine 26 _ rfl kb h).resolve_left (fun h => h)
  have H := H.freeze 26 rfl (fun kb => (Value.slice Ar26 ((gopd r.ops (k : Int)).timer.steps).length cr26).ownBlock = some kb) (fun kb => ⟨fun h => .inr h, fun h => h.resolve_left id⟩)
  refine la F rfl (x_faddr Tryz.underlying93 rfl ty64 (by decide) (F.t 6 rfl) rfl) fun a F => la F rfl (x_faddr Tryz.underlying64 rfl ty62 (by decide) (F.t 27 rfl) rfl) fun a F => ?_
  refine lp rfl ?_
  refine w_store 6 H ty62 rfl (F.t 28 rfl) (F.t 26 rfl) rfl (one1 rfl rfl) (by first | decide | exact Nat.le_of_ble_eq_true rfl) ?_
  clear H; intro w H
  refine wn (hK13 _ _ ?_)
  refine wp_region_lit ?_
  refine la F rfl (x_move (F.t 4 rfl)) fun a F => la F rfl (x_loadn ty93 (F.t 6 rfl) rfl (blk_whole (H.at 6 rfl))) fun a F => ?_
  refine lp rfl ?_
  refine w_lit1 31 OpdE (gopd r.ops (k : Int)) #[.int .i64 (gopd r.ops (k : Int)).kind, .string (strOfNums (gopd r.ops (k : Int)).key), .int .i64 (gopd r.ops (k : Int)).step.1, .string (strOfNums (gopd r.ops (k : Int)).step.2.1), .string (strOfNums (gopd r.ops (k : Int)).step.2.2.1), .int .i64 (gopd r.ops (k : Int)).step.2.2.2, .string (strOfNums (gopd r.ops (k : Int)).timer.name), .int .i64 (gopd r.ops (k : Int)).timer.ver, .int .u64 (gopd r.ops (k : Int)).timer.tick, .int .u64 (gopd r.ops (k : Int)).timer.every, .slice Ar26 ((gopd r.ops (k : Int)).timer.steps).length cr26] (fun kb => (Value.slice Ar26 ((gopd r.ops (k : Int)).timer.steps).length cr26).ownBlock = some kb) F H rfl Tryz.underlying37 ty93 (by simp only [bM, F.t 30 rfl] <;> rfl) (by decide) (by kernel_rfl) (opd_mk ((gopd r.ops (k : Int))) ((H.rd 26 rfl))) (fun kb hk => ⟨26, _, rfl, hk⟩) ?_
  clear F H; intro a w b31 F hb31_ H
  refine lp rfl ?_
  refine w_append 4 31 (xs := ([markO r] ++ r.ops.take k)) (ys := ([(gopd r.ops (k : Int))])) F H rfl Tryz.underlying37 ty93 rfl rfl rfl rfl ((H.rd 31 rfl)) oI (F.t 29 rfl) (F.t 31 rfl) (by have := (rightQ_parts hr); simp only [List.length_append, List.length_nil, List.length_cons, List.length_take] at *; omega) (by have := (rightQ_parts hr); simp only [List.length_append, List.length_nil, List.length_cons, List.length_take, maxLen] at *; omega) (fun kb => okv kb ∨ (fun kb => (fun kb => (Value.slice Ar26 ((gopd r.ops (k : Int)).timer.steps).length cr26).ownBlock = some kb) kb ∨ kb = b31) kb) (fun w' v' h => h) (by rintro k_ (hk_ | hk_); exact .inl hk_; exact .inr hk_) ?_
  clear F H; intro a w v32 F H
  refine la F rfl (x_assign (F.t 32 rfl)) fun a F => wn (hK11 _ _ ?_)
  refine wp_region_lit ?_
  refine la F rfl (x_add (F.t 19 rfl) rfl (w64 (by omega) (by omega))) fun a F => la F rfl (x_move (F.t 33 rfl)) fun a F => ?_
  refine wpList_nil ?_
  have hHs : Hp (fun _ => False) w0 w [(900, .rd_ OpdE Ar0 r.ops cr0 (fun k => k < w0.heap.size)), (990, .lib pp), (1, .blk b1 (.cells #[.string (strOfNums r.client), .int .i64 r.num, .slice Ar0 r.ops.length cr0] 39 (0, 0))), (4, .row OpdE 93 v32 (([markO r] ++ r.ops.take k) ++ [(gopd r.ops (k : Int))]) (fun kb => okv kb ∨ (fun kb => (fun kb => (Value.slice Ar26 ((gopd r.ops (k : Int)).timer.steps).length cr26).ownBlock = some kb) kb ∨ kb = b31) kb))] := H.sub _ (sub_cons (sub_cons (sub_cons (sub_cons (sub_nil _) 4 rfl) 1 rfl) 990 rfl) 900 rfl)
  rw [wrap_step hc20] at hHs
  exact ⟨_, by omega, ⟨k + 1, v32, (fun kb => okv kb ∨ (fun kb => (fun kb => (Value.slice Ar26 ((gopd r.ops (k : Int)).timer.steps).length cr26).ownBlock = some kb) kb ∨ kb = b31) kb), rfl, by omega, (fun kb h => by rcases h with h | h | rfl; exact hq0_1 kb h; exact hfr26 kb h; exact hb31_.resolve_left id), ((((((F.bare.add F 19 rfl).add F 18 rfl).add F 17 rfl).add F 4 rfl).add F 3 rfl).add F 1 rfl), hHs⟩⟩
 have hk20_4 := hc20; try simp only [bL] at hc20
 refine wp_exit ?_
 refine hK7 _ _ (sr fun _ hK14 => ?_)
 obtain rfl : k = r.ops.length := by omega
 rw [List.take_length] at H
 obtain ⟨Av, cv, rfl⟩ := (H.row 4 rfl).form
 refine la F rfl (x_move (F.t 4 rfl)) fun a F => la F rfl (x_move (F.t 3 rfl)) fun a F => la F rfl (x_faddr Tryz.underlying39 rfl ty3 (by decide) (F.t 1 rfl) rfl) fun a F => la F rfl (x_load1 ty3 (F.t 36 rfl) (blk_cell (H.at 1 rfl) 1 rfl)) fun a F => ?_
 refine lp rfl ?_
 refine w_call F (x_enter Tryz.func60 (by kernel_rfl) rfl (by simp only [bM, F.t 37 rfl] <;> rfl)) (itoa_calls _ (H.holds 990 _ rfl) hb.num) rfl rfl ?_
 rintro _ w ⟨rfl, hm_⟩; refine ⟨_, rfl, ?_⟩; clear F; intro a F; have H := H.same hm_
 refine la F rfl (x_buildS (cells := #[.int .i64 1, .string (strOfNums ([64] ++ r.client)), .string (strOfNums (itoaI r.num)), .int .i64 0]) (places := #[(0, 1), (1, 1), (2, 1), (3, 1)]) Tryz.underlying91 ty91 (by kernel_rfl) (by simp only [bM, F.t 35 rfl, F.t 38 rfl] <;> rfl) rfl) fun a F => la F rfl (x_buildS (cells := #[.int .i64 2, .string (strOfNums []), .int .i64 1, .string (strOfNums ([64] ++ r.client)), .string (strOfNums (itoaI r.num)), .int .i64 0, .string (strOfNums []), .int .i64 0, .int .u64 0, .int .u64 0, .slice none 0 0]) (places := #[(0, 1), (1, 1), (2, 4), (6, 5)]) Tryz.underlying93 ty93 (by kernel_rfl) (by simp only [bM, F.t 39 rfl] <;> rfl) (by first | (simp [Instr.fill, Value.cells]; done) | rfl)) fun a F => ?_
 refine lp rfl ?_
 refine w_lit1 41 OpdE (putO r) #[.int .i64 2, .string (strOfNums []), .int .i64 1, .string (strOfNums ([64] ++ r.client)), .string (strOfNums (itoaI r.num)), .int .i64 0, .string (strOfNums []), .int .i64 0, .int .u64 0, .int .u64 0, .slice none 0 0] (fun _ => False) F H rfl Tryz.underlying37 ty93 (by simp only [bM, F.t 40 rfl] <;> rfl) (by decide) (by kernel_rfl) (opd_mk (putO r) (Rd.nil StE _ (fun _ => False))) (fun kb hk => hk.elim) ?_
 clear F H; intro a w b41 F hb41_ H
 refine lp rfl ?_
 refine w_append 4 41 (xs := ([markO r] ++ r.ops)) (ys := ([putO r])) F H rfl Tryz.underlying37 ty93 rfl rfl rfl rfl ((H.rd 41 rfl)) oI (F.t 34 rfl) (F.t 41 rfl) (by have := (rightQ_parts hr); simp only [List.length_append, List.length_nil, List.length_cons] at *; omega) (by have := (rightQ_parts hr); simp only [List.length_append, List.length_nil, List.length_cons, maxLen] at *; omega) (fun kb => okv kb ∨ (fun kb => (fun _ => False) kb ∨ kb = b41) kb) (fun w' v' h => h) (by rintro k_ (hk_ | hk_); exact .inl hk_; exact .inr hk_) ?_
 clear F H; intro a w v42 F H
 refine la F rfl (x_assign (F.t 42 rfl)) fun a F => wn (hK14 _ _ ?_)
 refine wp_ret ?_
 try simp only [Exit.then, Exit.inBlock]
 rw [wrapL_yes hr] at H
 exact fin_ret F (res1 F rfl rfl) ⟨_, rfl, H.mods, Hp.outNew H 4 rfl (fun kb h => by rcases h with h | h | rfl; exact hq0_1 kb h; exact h.elim; exact hb41_.resolve_left id)⟩
theorem fitsU_calls (w0 : World) {t : TimerD} {okt0 : Nat → Prop} {At0 : Option Addr} {ct0 : Nat} (hrt0 : Rd StE w0 okt0 At0 t.steps ct0) : Calls Tryz.prog 97 #[.agg #[.string (strOfNums t.name), .int .i64 t.ver, .int .u64 t.tick, .int .u64 t.every, .slice At0 t.steps.length ct0]] w0 fun e w' => ∃ b : Bool, e = .returned (.bool b) ∧ Mods (fun _ => False) w0 w' := by
 refine cow Tryz.func97 rfl Tryz.ntmps97 (Nat.le_of_ble_eq_true rfl) fun a F => ?_
 have H := Hp.nil (fun _ => False) w0
 have H := H.arg 900 hrt0.all (fun _ h => ⟨h, fun h => h⟩)
 have hlet0 := hrt0.le; unfold maxLen at hlet0
 refine sr fun _ hK1 => ?_
 refine lp rfl ?_
 refine w_box 1 F H rfl (F.t 0 rfl) ?_
 clear F H; intro a w b1 F H
 refine la F rfl (x_assign rfl) fun a F => wn (hK1 _ _ ?_)
 refine wp_seq_k fun _ hK2 => ?_
 refine sr fun _ hK3 => la F rfl (x_assign rfl) fun a F => wn (hK3 _ _ (wp_block ?_))
 refine wp_loop_ghost (fun n_ a w => ∃ k : Nat, n_ = t.steps.length - k ∧ (k ≤ t.steps.length) ∧ Fr 37 a [(1, .pointer (some ⟨b1, 0, none⟩)), (3, .int .i64 (k : Int))] ∧ Hp (fun _ => False) w0 w [(900, .rd_ StE At0 t.steps ct0 (fun k => k < w0.heap.size)), (1, .blk b1 (.cells #[.string (strOfNums t.name), .int .i64 t.ver, .int .u64 t.tick, .int .u64 t.every, .slice At0 t.steps.length ct0] 64 (0, 0)))]) (t.steps.length) ?_ ?_
 ·exact ⟨0, rfl, by omega, ((F.bare.add F 3 rfl).add F 1 rfl), H.sub _ (sub_cons (sub_cons (sub_nil _) 1 rfl) 900 rfl)⟩
 rintro _ a w ⟨k, rfl, hq0_0, F, H⟩
 refine wp_seq_k fun _ hK4 => ?_
 refine sr fun _ hK5 => la F rfl (x_move (F.t 3 rfl)) fun a F => la F rfl (x_faddr Tryz.underlying64 rfl ty62 (by decide) (F.t 1 rfl) rfl) fun a F => la F rfl (x_load1 ty62 (F.t 5 rfl) (blk_cell (H.at 1 rfl) 4 rfl)) fun a F => la F rfl (x_len_slice Tryz.underlying62 (F.t 6 rfl)) fun a F => la F rfl (x_lss (F.t 4 rfl) (F.t 7 rfl)) fun a F => wn (hK5 _ _ ?_)
 refine wp_cond_split (F.t 8 rfl) (fun hc8 => ?_) (fun hc8 => ?_)
 ·have hk8_1 := hc8; try simp only [bL] at hc8
  refine wp_skip (hK4 _ _ ?_)
  refine wp_seq_k fun _ hK6 => ?_
  refine wp_block (sr fun _ hK7 => la F rfl (x_move (F.t 3 rfl)) fun a F => la F rfl (x_eql (F.t 11 rfl) rfl) fun a F => la F rfl (x_move (F.t 12 rfl)) fun a F => ?_)
  refine split_bool F 13 rfl (fun hb13 => ?_) (fun hb13 => ?_)
  ·have hc13 := hb13; try simp only [bL] at hc13
   refine los F hb13 rfl fun a F => los F hb13 rfl fun a F => los F hb13 rfl fun a F => los F hb13 rfl fun a F => los F hb13 rfl fun a F => los F hb13 rfl fun a F => los F hb13 rfl fun a F => los F hb13 rfl fun a F => ?_
   refine la F rfl (x_pickT (F.t 13 rfl) hb13 rfl) fun a F => la F rfl (x_move (F.t 22 rfl)) fun a F => lo F rfl fun a F => lo F rfl fun a F => lo F rfl fun a F => lo F rfl fun a F => lo F rfl fun a F => lo F rfl fun a F => ?_
   refine lo F rfl fun a F => lo F rfl fun a F => la F rfl (x_pickT (F.t 23 rfl) rfl rfl) fun a F => wn (hK7 _ _ ?_)
   refine wp_cond_true (F.t 32 rfl) ?_
   refine sr fun _ hK8 => la F rfl (x_assign rfl) fun a F => wn (hK8 _ _ ?_)
   refine wp_ret ?_
   try simp only [Exit.then, Exit.inBlock]
   exact fin_ret F (res1 (v := .bool false) F rfl rfl) ⟨_, rfl, H.mods⟩
  have hc13 := hb13; try simp only [bL] at hc13
  obtain ⟨hf2_0, hf2_1, hf2_2, hf2_3, hfw2⟩ := rd_st ((H.rd 900 rfl)) (gst_some (xs := t.steps) (i := (k : Int)) (by omega) (by omega))
  have H := H.subcels 900 rfl 2499 hfw2 (Rd.inok ((H.rd 900 rfl)) (by omega) _)
  have H := H.subcel 900 rfl 2500 hf2_0 (Rd.inok ((H.rd 900 rfl)) (by omega) _)
  have H := H.subcel 900 rfl 2501 hf2_1 (Rd.inok ((H.rd 900 rfl)) (by omega) _)
  have H := H.subcel 900 rfl 2502 hf2_2 (Rd.inok ((H.rd 900 rfl)) (by omega) _)
  have H := H.subcel 900 rfl 2503 hf2_3 (Rd.inok ((H.rd 900 rfl)) (by omega) _)
  refine lgs F hb13 rfl (x_faddr Tryz.underlying64 rfl ty62 (by decide) (F.t 1 rfl) rfl) fun a F => lgs F hb13 rfl (x_load1 ty62 (F.t 14 rfl) (blk_cell (H.at 1 rfl) 4 rfl)) fun a F => lgs F hb13 rfl (x_move (F.t 3 rfl)) fun a F => lgs F hb13 rfl (x_iaddr_A Tryz.underlying62 ty91 ((H.rd 900 rfl)) (F.t 15 rfl) (F.t 16 rfl) (by omega) (by omega) _) fun a F => lgs F hb13 rfl (x_faddrA ((H.rd 900 rfl)) (by omega) _ Tryz.underlying91 rfl ty9 (by decide) (F.t 17 rfl) rfl) fun a F => lgs F hb13 rfl (x_load1 ty9 (F.t 18 rfl) (H.holds 2501 _ rfl)) fun a F => lgs F hb13 rfl (x_len_sn (xs := ((gst t.steps (k : Int)).2.1)) Tryz.underlying9 (F.t 19 rfl)) fun a F => lgs F hb13 rfl (x_gtr (F.t 20 rfl) rfl) fun a F => ?_
  refine la F rfl (x_pickF (F.t 13 rfl) hb13 (F.t 21 rfl)) fun a F => la F rfl (x_move (F.t 22 rfl)) fun a F => ?_
  refine split_bool F 23 rfl (fun hb23 => ?_) (fun hb23 => ?_)
  ·have hc23 := hb23; try simp only [bL] at hc23
   refine los F hb23 rfl fun a F => los F hb23 rfl fun a F => los F hb23 rfl fun a F => los F hb23 rfl fun a F => los F hb23 rfl fun a F => los F hb23 rfl fun a F => los F hb23 rfl fun a F => los F hb23 rfl fun a F => ?_
   refine la F rfl (x_pickT (F.t 23 rfl) hb23 rfl) fun a F => wn (hK7 _ _ ?_)
   refine wp_cond_true (F.t 32 rfl) ?_
   refine sr fun _ hK9 => la F rfl (x_assign rfl) fun a F => wn (hK9 _ _ ?_)
   refine wp_ret ?_
   try simp only [Exit.then, Exit.inBlock]
   exact fin_ret F (res1 (v := .bool false) F rfl rfl) ⟨_, rfl, H.mods⟩
  have hc23 := hb23; try simp only [bL] at hc23
  refine lgs F hb23 rfl (x_faddr Tryz.underlying64 rfl ty62 (by decide) (F.t 1 rfl) rfl) fun a F => lgs F hb23 rfl (x_load1 ty62 (F.t 24 rfl) (blk_cell (H.at 1 rfl) 4 rfl)) fun a F => lgs F hb23 rfl (x_move (F.t 3 rfl)) fun a F => lgs F hb23 rfl (x_iaddr_A Tryz.underlying62 ty91 ((H.rd 900 rfl)) (F.t 25 rfl) (F.t 26 rfl) (by omega) (by omega) _) fun a F => lgs F hb23 rfl (x_faddrA ((H.rd 900 rfl)) (by omega) _ Tryz.underlying91 rfl ty9 (by decide) (F.t 27 rfl) rfl) fun a F => lgs F hb23 rfl (x_load1 ty9 (F.t 28 rfl) (H.holds 2502 _ rfl)) fun a F => lgs F hb23 rfl (x_len_sn (xs := ((gst t.steps (k : Int)).2.2.1)) Tryz.underlying9 (F.t 29 rfl)) fun a F => lgs F hb23 rfl (x_gtr (F.t 30 rfl) rfl) fun a F => ?_
  refine la F rfl (x_pickF (F.t 23 rfl) hb23 (F.t 31 rfl)) fun a F => wn (hK7 _ _ ?_)
  refine wp_cond_split (F.t 32 rfl) (fun hc32 => ?_) (fun hc32 => ?_)
  ·have hk32_2 := hc32; try simp only [bL] at hc32
   refine sr fun _ hK10 => la F rfl (x_assign rfl) fun a F => wn (hK10 _ _ ?_)
   refine wp_ret ?_
   try simp only [Exit.then, Exit.inBlock]
   exact fin_ret F (res1 (v := .bool false) F rfl rfl) ⟨_, rfl, H.mods⟩
  have hk32_3 := hc32; try simp only [bL] at hc32
  refine wp_skip (hK6 _ _ ?_)
  refine wp_region_lit ?_
  refine la F rfl (x_move (F.t 3 rfl)) fun a F => la F rfl (x_add (F.t 9 rfl) rfl (w64 (by omega) (by omega))) fun a F => la F rfl (x_assign (F.t 10 rfl)) fun a F => ?_
  refine wpList_nil ?_
  exact ⟨_, by omega, ⟨k + 1, rfl, by omega, ((F.bare.add F 3 rfl).add F 1 rfl), H.sub _ (sub_cons (sub_cons (sub_nil _) 1 rfl) 900 rfl)⟩⟩
 have hk8_4 := hc8; try simp only [bL] at hc8
 refine wp_exit ?_
 refine hK2 _ _ (sr fun _ hK11 => la F rfl (x_faddr Tryz.underlying64 rfl ty9 (by decide) (F.t 1 rfl) rfl) fun a F => la F rfl (x_load1 ty9 (F.t 33 rfl) (blk_cell (H.at 1 rfl) 0 rfl)) fun a F => la F rfl (x_len_sn (xs := t.name) Tryz.underlying9 (F.t 34 rfl)) fun a F => la F rfl (x_leq (F.t 35 rfl) rfl) fun a F => la F rfl (x_assign (F.t 36 rfl)) fun a F => wn (hK11 _ _ ?_))
 refine wp_ret ?_
 try simp only [Exit.then, Exit.inBlock]
 exact fin_ret F (res1 (v := .bool (decide ((t.name.length : Int) ≤ 100))) F rfl rfl) ⟨_, rfl, H.mods⟩
theorem fitsO_calls (w0 : World) {o : OpD} {oko0 : Nat → Prop} {Ao0 : Option Addr} {co0 : Nat} (hro0 : Rd StE w0 oko0 Ao0 o.timer.steps co0) : Calls Tryz.prog 88 #[.agg #[.int .i64 o.kind, .string (strOfNums o.key), .int .i64 o.step.1, .string (strOfNums o.step.2.1), .string (strOfNums o.step.2.2.1), .int .i64 o.step.2.2.2, .string (strOfNums o.timer.name), .int .i64 o.timer.ver, .int .u64 o.timer.tick, .int .u64 o.timer.every, .slice Ao0 o.timer.steps.length co0]] w0 fun e w' => ∃ b : Bool, e = .returned (.bool b) ∧ Mods (fun _ => False) w0 w' := by
 refine cow Tryz.func88 rfl Tryz.ntmps88 (Nat.le_of_ble_eq_true rfl) fun a F => ?_
 have H := Hp.nil (fun _ => False) w0
 have H := H.arg 900 hro0.all (fun _ h => ⟨h, fun h => h⟩)
 have hleo0 := hro0.le; unfold maxLen at hleo0
 refine sr fun _ hK1 => ?_
 refine lp rfl ?_
 refine w_box 1 F H rfl (F.t 0 rfl) ?_
 clear F H; intro a w b1 F H
 refine la F rfl (x_assign rfl) fun a F => wn (hK1 _ _ (sr fun _ hK2 => la F rfl (x_faddr Tryz.underlying93 rfl ty9 (by decide) (F.t 1 rfl) rfl) fun a F => la F rfl (x_load1 ty9 (F.t 3 rfl) (blk_cell (H.at 1 rfl) 1 rfl)) fun a F => la F rfl (x_len_sn (xs := o.key) Tryz.underlying9 (F.t 4 rfl)) fun a F => la F rfl (x_leq (F.t 5 rfl) rfl) fun a F => la F rfl (x_move (F.t 6 rfl)) fun a F => ?_))
 refine split_bool F 7 rfl (fun hb7 => ?_) (fun hb7 => ?_)
 ·have hc7 := hb7; try simp only [bL] at hc7
  refine lgs F hb7 rfl (x_faddr Tryz.underlying93 rfl ty91 (by decide) (F.t 1 rfl) rfl) fun a F => lgs F hb7 rfl (x_faddr Tryz.underlying91 rfl ty9 (by decide) (F.t 8 rfl) rfl) fun a F => lgs F hb7 rfl (x_load1 ty9 (F.t 9 rfl) (blk_cell (H.at 1 rfl) 3 rfl)) fun a F => lgs F hb7 rfl (x_len_sn (xs := o.step.2.1) Tryz.underlying9 (F.t 10 rfl)) fun a F => lgs F hb7 rfl (x_leq (F.t 11 rfl) rfl) fun a F => la F rfl (x_pickT (F.t 7 rfl) hb7 (F.t 12 rfl)) fun a F => la F rfl (x_move (F.t 13 rfl)) fun a F => ?_
  refine split_bool F 14 rfl (fun hb14 => ?_) (fun hb14 => ?_)
  ·have hc14 := hb14; try simp only [bL] at hc14
   refine lgs F hb14 rfl (x_faddr Tryz.underlying93 rfl ty91 (by decide) (F.t 1 rfl) rfl) fun a F => lgs F hb14 rfl (x_faddr Tryz.underlying91 rfl ty9 (by decide) (F.t 15 rfl) rfl) fun a F => lgs F hb14 rfl (x_load1 ty9 (F.t 16 rfl) (blk_cell (H.at 1 rfl) 4 rfl)) fun a F => lgs F hb14 rfl (x_len_sn (xs := o.step.2.2.1) Tryz.underlying9 (F.t 17 rfl)) fun a F => lgs F hb14 rfl (x_leq (F.t 18 rfl) rfl) fun a F => la F rfl (x_pickT (F.t 14 rfl) hb14 (F.t 19 rfl)) fun a F => la F rfl (x_move (F.t 20 rfl)) fun a F => ?_
   refine split_bool F 21 rfl (fun hb21 => ?_) (fun hb21 => ?_)
   ·have hc21 := hb21; try simp only [bL] at hc21
    refine lgs F hb21 rfl (x_faddr Tryz.underlying93 rfl ty64 (by decide) (F.t 1 rfl) rfl) fun a F => lgs F hb21 rfl (x_loadn (cs := #[.string (strOfNums o.timer.name), .int .i64 o.timer.ver, .int .u64 o.timer.tick, .int .u64 o.timer.every, .slice Ao0 o.timer.steps.length co0]) ty64 (F.t 22 rfl) rfl (blk_sub (H.at 1 rfl) 6 5 rfl)) fun a F => ?_
    refine lpo ((wo F rfl).trans (by rw [hb21]; rfl)) ?_
    refine w_call F (x_enter Tryz.func97 (by kernel_rfl) rfl (by simp only [bM, F.t 23 rfl] <;> rfl)) (fitsU_calls (t := o.timer) _ ((H.rd 900 rfl))) rfl rfl ?_
    rintro _ w ⟨bt_, rfl, hm_⟩; refine ⟨_, rfl, ?_⟩; clear F; intro a F; have H := H.same hm_
    refine la F rfl (x_pickT (F.t 21 rfl) hb21 (F.t 24 rfl)) fun a F => la F rfl (x_assign (F.t 25 rfl)) fun a F => wn (hK2 _ _ ?_)
    refine wp_ret ?_
    try simp only [Exit.then, Exit.inBlock]
    exact fin_ret F (res1 (v := .bool bt_) F rfl rfl) ⟨_, rfl, H.mods⟩
   have hc21 := hb21; try simp only [bL] at hc21
   refine los F hb21 rfl fun a F => los F hb21 rfl fun a F => los F hb21 rfl fun a F => la F rfl (x_pickF (F.t 21 rfl) hb21 rfl) fun a F => la F rfl (x_assign (F.t 25 rfl)) fun a F => wn (hK2 _ _ ?_)
   refine wp_ret ?_
   try simp only [Exit.then, Exit.inBlock]
   exact fin_ret F (res1 (v := .bool false) F rfl rfl) ⟨_, rfl, H.mods⟩
  have hc14 := hb14; try simp only [bL] at hc14
  refine los F hb14 rfl fun a F => los F hb14 rfl fun a F => los F hb14 rfl fun a F => los F hb14 rfl fun a F => los F hb14 rfl fun a F => la F rfl (x_pickF (F.t 14 rfl) hb14 rfl) fun a F => la F rfl (x_move (F.t 20 rfl)) fun a F => lo F rfl fun a F => ?_
  refine lo F rfl fun a F => lo F rfl fun a F => la F rfl (x_pickF (F.t 21 rfl) rfl rfl) fun a F => la F rfl (x_assign (F.t 25 rfl)) fun a F => wn (hK2 _ _ ?_)
  refine wp_ret ?_
  try simp only [Exit.then, Exit.inBlock]
  exact fin_ret F (res1 (v := .bool false) F rfl rfl) ⟨_, rfl, H.mods⟩
 have hc7 := hb7; try simp only [bL] at hc7
 refine los F hb7 rfl fun a F => los F hb7 rfl fun a F => los F hb7 rfl fun a F => los F hb7 rfl fun a F => los F hb7 rfl fun a F => la F rfl (x_pickF (F.t 7 rfl) hb7 rfl) fun a F => la F rfl (x_move (F.t 13 rfl)) fun a F => lo F rfl fun a F => ?_
 refine lo F rfl fun a F => lo F rfl fun a F => lo F rfl fun a F => lo F rfl fun a F => la F rfl (x_pickF (F.t 14 rfl) rfl rfl) fun a F => la F rfl (x_move (F.t 20 rfl)) fun a F => lo F rfl fun a F => lo F rfl fun a F => ?_
 refine lo F rfl fun a F => la F rfl (x_pickF (F.t 21 rfl) rfl rfl) fun a F => la F rfl (x_assign (F.t 25 rfl)) fun a F => wn (hK2 _ _ ?_)
 refine wp_ret ?_
 try simp only [Exit.then, Exit.inBlock]
 exact fin_ret F (res1 (v := .bool false) F rfl rfl) ⟨_, rfl, H.mods⟩
theorem fitsOs_calls (w0 : World) {ok : Nat → Prop} {A : Option Addr} {xs : List OpD} {c : Nat} (hr : Rd OpdE w0 ok A xs c) : Calls Tryz.prog 52 #[.slice A xs.length c] w0 fun e w' => ∃ b : Bool, e = .returned (.bool b) ∧ Mods (fun _ => False) w0 w' := by
 refine cow Tryz.func52 rfl Tryz.ntmps52 (Nat.le_of_ble_eq_true rfl) fun a F => ?_
 have H := Hp.nil (fun _ => False) w0
 have H := H.arg 901 hr.all (fun _ h => ⟨h, fun h => h⟩)
 have hle901 := hr.le; unfold maxLen at hle901
 refine sr fun _ hK1 => la F rfl (x_assign rfl) fun a F => wn (hK1 _ _ ?_)
 refine wp_seq_k fun _ hK2 => ?_
 refine sr fun _ hK3 => la F rfl (x_assign rfl) fun a F => wn (hK3 _ _ (wp_block ?_))
 refine wp_loop_ghost (fun n_ a w => ∃ k : Nat, n_ = xs.length - k ∧ (k ≤ xs.length) ∧ Fr 18 a [(0, .slice A xs.length c), (3, .int .i64 (k : Int))] ∧ Hp (fun _ => False) w0 w [(901, .rd_ OpdE A xs c (fun k => k < w0.heap.size))]) (xs.length) ?_ ?_
 ·exact ⟨0, rfl, by omega, ((F.bare.add F 3 rfl).add F 0 rfl), H.sub _ (sub_cons (sub_nil _) 901 rfl)⟩
 rintro _ a w ⟨k, rfl, hq0_0, F, H⟩
 refine wp_seq_k fun _ hK4 => ?_
 refine sr fun _ hK5 => la F rfl (x_move (F.t 3 rfl)) fun a F => la F rfl (x_move (F.t 0 rfl)) fun a F => la F rfl (x_len_slice Tryz.underlying37 (F.t 6 rfl)) fun a F => la F rfl (x_lss (F.t 5 rfl) (F.t 7 rfl)) fun a F => wn (hK5 _ _ ?_)
 refine wp_cond_split (F.t 8 rfl) (fun hc8 => ?_) (fun hc8 => ?_)
 ·have hk8_1 := hc8; try simp only [bL] at hc8
  refine wp_skip (hK4 _ _ ?_)
  refine wp_seq_k fun _ hK6 => ?_
  refine wp_block (sr fun _ hK7 => ?_)
  obtain ⟨fA1, fc1, hfr1, hf1_0, hf1_1, hf1_2, hf1_3, hf1_4, hf1_5, hf1_6, hf1_7, hf1_8, hf1_9, hf1_10, hfw1⟩ := rd_opd ((H.rd 901 rfl)) (gopd_some (xs := xs) (i := (k : Int)) (by omega) (by omega))
  have H := H.subrd 901 rfl 1010 hfr1 (fun _ h => h)
  have H := H.subcels 901 rfl 1499 hfw1 (Rd.inok ((H.rd 901 rfl)) (by omega) _)
  have H := H.subcel 901 rfl 1500 hf1_0 (Rd.inok ((H.rd 901 rfl)) (by omega) _)
  have H := H.subcel 901 rfl 1501 hf1_1 (Rd.inok ((H.rd 901 rfl)) (by omega) _)
  have H := H.subcel 901 rfl 1502 hf1_2 (Rd.inok ((H.rd 901 rfl)) (by omega) _)
  have H := H.subcel 901 rfl 1503 hf1_3 (Rd.inok ((H.rd 901 rfl)) (by omega) _)
  have H := H.subcel 901 rfl 1504 hf1_4 (Rd.inok ((H.rd 901 rfl)) (by omega) _)
  have H := H.subcel 901 rfl 1505 hf1_5 (Rd.inok ((H.rd 901 rfl)) (by omega) _)
  have H := H.subcel 901 rfl 1506 hf1_6 (Rd.inok ((H.rd 901 rfl)) (by omega) _)
  have H := H.subcel 901 rfl 1507 hf1_7 (Rd.inok ((H.rd 901 rfl)) (by omega) _)
  have H := H.subcel 901 rfl 1508 hf1_8 (Rd.inok ((H.rd 901 rfl)) (by omega) _)
  have H := H.subcel 901 rfl 1509 hf1_9 (Rd.inok ((H.rd 901 rfl)) (by omega) _)
  have H := H.subcel 901 rfl 1510 hf1_10 (Rd.inok ((H.rd 901 rfl)) (by omega) _)
  refine la F rfl (x_move (F.t 0 rfl)) fun a F => la F rfl (x_move (F.t 3 rfl)) fun a F => la F rfl (x_iaddr_A Tryz.underlying37 ty93 ((H.rd 901 rfl)) (F.t 11 rfl) (F.t 12 rfl) (by omega) (by omega) _) fun a F => la F rfl (x_loadn ty93 (F.t 13 rfl) rfl (H.holds 1499 _ rfl)) fun a F => ?_
  refine lp rfl ?_
  refine w_call F (x_enter Tryz.func88 (by kernel_rfl) rfl (by simp only [bM, F.t 14 rfl] <;> rfl)) (fitsO_calls (o := (gopd xs (k : Int))) _ ((H.rd 1010 rfl))) rfl rfl ?_
  rintro _ w ⟨bc_, rfl, hm_⟩; refine ⟨_, rfl, ?_⟩; clear F; intro a F; have H := H.same hm_
  refine la F rfl (x_assign (F.t 15 rfl)) fun a F => wn (hK7 _ _ (sr fun _ hK8 => la F rfl (x_move (F.t 4 rfl)) fun a F => la F rfl (x_not (F.t 16 rfl)) fun a F => wn (hK8 _ _ ?_)))
  refine wp_cond_split (F.t 17 rfl) (fun hc17 => ?_) (fun hc17 => ?_)
  ·have hk17_2 := hc17; try simp only [bL] at hc17
   refine sr fun _ hK9 => la F rfl (x_assign rfl) fun a F => wn (hK9 _ _ ?_)
   refine wp_ret ?_
   try simp only [Exit.then, Exit.inBlock]
   exact fin_ret F (res1 (v := .bool false) F rfl rfl) ⟨_, rfl, H.mods⟩
  have hk17_3 := hc17; try simp only [bL] at hc17
  refine wp_skip (hK6 _ _ ?_)
  refine wp_region_lit ?_
  refine la F rfl (x_move (F.t 3 rfl)) fun a F => la F rfl (x_add (F.t 9 rfl) rfl (w64 (by omega) (by omega))) fun a F => la F rfl (x_assign (F.t 10 rfl)) fun a F => ?_
  refine wpList_nil ?_
  exact ⟨_, by omega, ⟨k + 1, rfl, by omega, ((F.bare.add F 3 rfl).add F 0 rfl), H.sub _ (sub_cons (sub_nil _) 901 rfl)⟩⟩
 have hk8_4 := hc8; try simp only [bL] at hc8
 refine wp_exit ?_
 refine hK2 _ _ (sr fun _ hK10 => la F rfl (x_assign rfl) fun a F => wn (hK10 _ _ ?_))
 refine wp_ret ?_
 try simp only [Exit.then, Exit.inBlock]
 exact fin_ret F (res1 (v := .bool true) F rfl rfl) ⟨_, rfl, H.mods⟩
theorem fitsQ_calls (w0 : World) {r : SReqD} {okr0 : Nat → Prop} {Ar0 : Option Addr} {cr0 : Nat} (hrr0 : Rd OpdE w0 okr0 Ar0 r.ops cr0) : Calls Tryz.prog 14 #[.agg #[.string (strOfNums r.client), .int .i64 r.num, .slice Ar0 r.ops.length cr0]] w0 fun e w' => ∃ b : Bool, e = .returned (.bool b) ∧ Mods (fun _ => False) w0 w' := by
 refine cow Tryz.func14 rfl Tryz.ntmps14 (Nat.le_of_ble_eq_true rfl) fun a F => ?_
 have H := Hp.nil (fun _ => False) w0
 have H := H.arg 900 hrr0.all (fun _ h => ⟨h, fun h => h⟩)
 have hler0 := hrr0.le; unfold maxLen at hler0
 refine sr fun _ hK1 => ?_
 refine lp rfl ?_
 refine w_box 1 F H rfl (F.t 0 rfl) ?_
 clear F H; intro a w b1 F H
 refine la F rfl (x_assign rfl) fun a F => wn (hK1 _ _ (sr fun _ hK2 => la F rfl (x_faddr Tryz.underlying39 rfl ty37 (by decide) (F.t 1 rfl) rfl) fun a F => la F rfl (x_load1 ty37 (F.t 4 rfl) (blk_cell (H.at 1 rfl) 2 rfl)) fun a F => ?_))
 refine lp rfl ?_
 refine w_call F (x_enter Tryz.func52 (by kernel_rfl) rfl (by simp only [bM, F.t 5 rfl] <;> rfl)) (fitsOs_calls _ ((H.rd 900 rfl))) rfl rfl ?_
 rintro _ w ⟨ba_, rfl, hm_⟩; refine ⟨_, rfl, ?_⟩; clear F; intro a F; have H := H.same hm_
 refine la F rfl (x_assign (F.t 6 rfl)) fun a F => wn (hK2 _ _ (sr fun _ hK3 => la F rfl (x_move (F.t 3 rfl)) fun a F => la F rfl (x_move (F.t 7 rfl)) fun a F => ?_))
 refine split_bool F 8 rfl (fun hb8 => ?_) (fun hb8 => ?_)
 ·have hc8 := hb8; try simp only [bL] at hc8
  refine lgs F hb8 rfl (x_faddr Tryz.underlying39 rfl ty37 (by decide) (F.t 1 rfl) rfl) fun a F => lgs F hb8 rfl (x_load1 ty37 (F.t 9 rfl) (blk_cell (H.at 1 rfl) 2 rfl)) fun a F => lgs F hb8 rfl (x_len_slice Tryz.underlying37 (F.t 10 rfl)) fun a F => lgs F hb8 rfl (x_leq (F.t 11 rfl) rfl) fun a F => la F rfl (x_pickT (F.t 8 rfl) hb8 (F.t 12 rfl)) fun a F => la F rfl (x_move (F.t 13 rfl)) fun a F => ?_
  refine split_bool F 14 rfl (fun hb14 => ?_) (fun hb14 => ?_)
  ·have hc14 := hb14; try simp only [bL] at hc14
   refine lgs F hb14 rfl (x_faddr Tryz.underlying39 rfl ty9 (by decide) (F.t 1 rfl) rfl) fun a F => lgs F hb14 rfl (x_load1 ty9 (F.t 15 rfl) (blk_cell (H.at 1 rfl) 0 rfl)) fun a F => lgs F hb14 rfl (x_len_sn (xs := r.client) Tryz.underlying9 (F.t 16 rfl)) fun a F => lgs F hb14 rfl (x_leq (F.t 17 rfl) rfl) fun a F => la F rfl (x_pickT (F.t 14 rfl) hb14 (F.t 18 rfl)) fun a F => la F rfl (x_assign (F.t 19 rfl)) fun a F => wn (hK3 _ _ ?_)
   refine wp_ret ?_
   try simp only [Exit.then, Exit.inBlock]
   exact fin_ret F (res1 (v := .bool (decide ((r.client.length : Int) ≤ 100))) F rfl rfl) ⟨_, rfl, H.mods⟩
  have hc14 := hb14; try simp only [bL] at hc14
  refine los F hb14 rfl fun a F => los F hb14 rfl fun a F => los F hb14 rfl fun a F => los F hb14 rfl fun a F => la F rfl (x_pickF (F.t 14 rfl) hb14 rfl) fun a F => la F rfl (x_assign (F.t 19 rfl)) fun a F => wn (hK3 _ _ ?_)
  refine wp_ret ?_
  try simp only [Exit.then, Exit.inBlock]
  exact fin_ret F (res1 (v := .bool false) F rfl rfl) ⟨_, rfl, H.mods⟩
 have hc8 := hb8; try simp only [bL] at hc8
 refine los F hb8 rfl fun a F => los F hb8 rfl fun a F => los F hb8 rfl fun a F => los F hb8 rfl fun a F => la F rfl (x_pickF (F.t 8 rfl) hb8 rfl) fun a F => la F rfl (x_move (F.t 13 rfl)) fun a F => lo F rfl fun a F => lo F rfl fun a F => ?_
 refine lo F rfl fun a F => lo F rfl fun a F => la F rfl (x_pickF (F.t 14 rfl) rfl rfl) fun a F => la F rfl (x_assign (F.t 19 rfl)) fun a F => wn (hK3 _ _ ?_)
 refine wp_ret ?_
 try simp only [Exit.then, Exit.inBlock]
 exact fin_ret F (res1 (v := .bool false) F rfl rfl) ⟨_, rfl, H.mods⟩
theorem qalive_calls (w0 : World) {pp : Bool} (hL : LibAt pp w0) : Calls Tryz.prog 15 #[] w0 fun e w' => e = .returned (.bool true) ∧ Mods (fun _ => False) w0 w' := by
 refine cow Tryz.func15 rfl Tryz.ntmps15 (Nat.le_of_ble_eq_true rfl) fun a F => ?_
 have H := Hp.nil (fun _ => False) w0
 have H := H.libN 990 hL
 refine sr fun _ hK1 => la F rfl (x_assign rfl) fun a F => wn (hK1 _ _ (sr fun _ hK2 => la F rfl (x_buildS (cells := #[.int .i64 1, .string (strOfNums ([107] : List Int)), .int .i64 0, .string (strOfNums []), .string (strOfNums []), .int .i64 0, .string (strOfNums []), .int .i64 0, .int .u64 0, .int .u64 0, .slice none 0 0]) (places := #[(0, 1), (1, 1), (2, 4), (6, 5)]) Tryz.underlying93 ty93 (by kernel_rfl) (by simp only [bM] <;> rfl) rfl) fun a F => ?_))
 refine lp rfl ?_
 refine w_litE 6 OpdE reqA.ops #[.int .i64 1, .string (strOfNums ([107] : List Int)), .int .i64 0, .string (strOfNums []), .string (strOfNums []), .int .i64 0, .string (strOfNums []), .int .i64 0, .int .u64 0, .int .u64 0, .slice none 0 0] (fun _ => False) F H rfl Tryz.underlying37 ty93 (by simp only [bM, F.t 5 rfl] <;> rfl) rfl (by decide) (by decide) (by kernel_rfl) (Elems.single (opd_mk (⟨1, [107], zS, zT⟩ : OpD) (Rd.nil StE _ (fun _ => False)))) (fun kb hk => hk.elim) ?_
 clear F H; intro a w b6 F H
 refine la F rfl (x_buildS (cells := #[.string (strOfNums ([99] : List Int)), .int .i64 5, .slice (some ⟨b6, 0, none⟩) reqA.ops.length reqA.ops.length]) (places := #[(0, 1), (1, 1), (2, 1)]) Tryz.underlying39 ty39 (by kernel_rfl) (by simp only [bM, F.t 6 rfl] <;> rfl) rfl) fun a F => ?_
 refine lp rfl ?_
 refine w_alloc 1 F H rfl ty39 ?_
 clear F H; intro a w b1 F H
 refine lp rfl ?_
 refine w_storeA 1 H ty39 rfl (F.t 1 rfl) (F.t 7 rfl) rfl (by simp [Value.cells, Value.oneCell']) rfl ?_
 clear H; intro w H
 have H := H.freeze 6 rfl (fun kb => (Value.slice (some ⟨b6, 0, none⟩) reqA.ops.length reqA.ops.length).ownBlock = some kb) (fun kb => ⟨fun h => .inr h, fun h => h.resolve_left id⟩)
 refine wn (hK2 _ _ (sr fun _ hK3 => la F rfl (x_loadn ty39 (F.t 1 rfl) rfl (blk_whole (H.at 1 rfl))) fun a F => ?_))
 refine lp rfl ?_
 refine w_call F (x_enter Tryz.func16 (by kernel_rfl) rfl (by simp only [bM, F.t 9 rfl] <;> rfl)) (encQ_calls (r := reqA) _ (H.holds 990 _ rfl) ((H.rd 6 rfl)) reqA_B) rfl rfl ?_
 rintro _ w ⟨vr8, rfl, hm_, hr_⟩; refine ⟨_, rfl, ?_⟩; clear F; intro a F; have H := Hp.rowOut H 8 hm_ hr_; obtain ⟨Ar8, cr8, rfl⟩ := (H.row 8 rfl).form
 refine la F rfl (x_move (F.t 10 rfl)) fun a F => la F rfl (x_extract (F.t 8 rfl) rfl) fun a F => la F rfl (x_extract (F.t 8 rfl) rfl) fun a F => la F rfl (x_assign (F.t 11 rfl)) fun a F => la F rfl (x_assign (F.t 12 rfl)) fun a F => wn (hK3 _ _ (sr fun _ hK4 => la F rfl (x_loadn ty39 (F.t 1 rfl) rfl (blk_whole (H.at 1 rfl))) fun a F => ?_))
 refine lp rfl ?_
 refine w_call F (x_enter Tryz.func23 (by kernel_rfl) rfl (by simp only [bM, F.t 13 rfl] <;> rfl)) (wrap_calls (r := reqA) _ (H.holds 990 _ rfl) ((H.rd 6 rfl)) reqA_B) rfl rfl ?_
 rintro _ w ⟨vr14, rfl, hm_, okr14, hr_, hf_, ho14_⟩; refine ⟨_, rfl, ?_⟩; clear F; intro a F; have H := H.newRow 14 hm_ hr_ hf_ ho14_; obtain ⟨Ar14, cr14, rfl⟩ := (H.row 14 rfl).form
 refine la F rfl (x_assign (F.t 14 rfl)) fun a F => wn (hK4 _ _ (sr fun _ hK5 => ?_))
 rw [encQE_yes reqA_right] at F
 have H := H.freeze 14 rfl (fun kb => okr14 kb ∨ (Value.slice Ar14 (wrapL reqA).length cr14).ownBlock = some kb) (fun kb => Iff.rfl)
 refine la F rfl (x_move (F.t 3 rfl)) fun a F => la F rfl (x_eql (F.t 15 rfl) rfl) fun a F => la F rfl (x_move (F.t 16 rfl)) fun a F => lg F rfl (x_move (F.t 2 rfl)) fun a F => lg F rfl (x_len_slice Tryz.underlying27 (F.t 18 rfl)) fun a F => lg F rfl (x_eql (F.t 19 rfl) rfl) fun a F => ?_
 rw [show (decide (((encQ reqA).length : Int) = 23)) = true from decide_eq_true (by rw [reqA_len]; rfl)] at F
 refine la F rfl (x_pickT (F.t 17 rfl) rfl (F.t 20 rfl)) fun a F => la F rfl (x_move (F.t 21 rfl)) fun a F => lg F rfl (x_move (F.t 4 rfl)) fun a F => lg F rfl (x_len_slice Tryz.underlying37 (F.t 23 rfl)) fun a F => lg F rfl (x_eql (F.t 24 rfl) rfl) fun a F => ?_
 rw [show (decide (((wrapL reqA).length : Int) = 3)) = true from decide_eq_true (by rw [wrapA]; rfl)] at F
 refine la F rfl (x_pickT (F.t 22 rfl) rfl (F.t 25 rfl)) fun a F => la F rfl (x_move (F.t 26 rfl)) fun a F => ?_
 have hwl : (wrapL reqA).length = 3 := by rw [wrapA]; rfl
 obtain ⟨fA1, fc1, hfr1, hf1_0, hf1_1, hf1_2, hf1_3, hf1_4, hf1_5, hf1_6, hf1_7, hf1_8, hf1_9, hf1_10, hfw1⟩ := rd_opd ((H.rd 14 rfl)) (gopd_some (xs := (wrapL reqA)) (i := 0) (by omega) (by omega))
 have H := H.subrd 14 rfl 1010 hfr1 (fun _ h => h)
 have H := H.subcels 14 rfl 1499 hfw1 (Rd.inok ((H.rd 14 rfl)) (by omega) _)
 have H := H.subcel 14 rfl 1500 hf1_0 (Rd.inok ((H.rd 14 rfl)) (by omega) _)
 have H := H.subcel 14 rfl 1501 hf1_1 (Rd.inok ((H.rd 14 rfl)) (by omega) _)
 have H := H.subcel 14 rfl 1502 hf1_2 (Rd.inok ((H.rd 14 rfl)) (by omega) _)
 have H := H.subcel 14 rfl 1503 hf1_3 (Rd.inok ((H.rd 14 rfl)) (by omega) _)
 have H := H.subcel 14 rfl 1504 hf1_4 (Rd.inok ((H.rd 14 rfl)) (by omega) _)
 have H := H.subcel 14 rfl 1505 hf1_5 (Rd.inok ((H.rd 14 rfl)) (by omega) _)
 have H := H.subcel 14 rfl 1506 hf1_6 (Rd.inok ((H.rd 14 rfl)) (by omega) _)
 have H := H.subcel 14 rfl 1507 hf1_7 (Rd.inok ((H.rd 14 rfl)) (by omega) _)
 have H := H.subcel 14 rfl 1508 hf1_8 (Rd.inok ((H.rd 14 rfl)) (by omega) _)
 have H := H.subcel 14 rfl 1509 hf1_9 (Rd.inok ((H.rd 14 rfl)) (by omega) _)
 have H := H.subcel 14 rfl 1510 hf1_10 (Rd.inok ((H.rd 14 rfl)) (by omega) _)
 refine lg F rfl (x_move (F.t 4 rfl)) fun a F => lg F rfl (x_iaddr_A Tryz.underlying37 ty93 ((H.rd 14 rfl)) (F.t 28 rfl) rfl (by omega) (by omega) _) fun a F => lg F rfl (x_faddrA ((H.rd 14 rfl)) (by omega) _ Tryz.underlying93 rfl ty9 (by decide) (F.t 29 rfl) rfl) fun a F => lg F rfl (x_load1 ty9 (F.t 30 rfl) (H.holds 1501 _ rfl)) fun a F => lg F rfl (x_eqn (xs := ((gopd (wrapL reqA) 0).key)) (ys := ([64, 99] : List Int)) (F.t 31 rfl) (show _ = Value.string (strOfNums ([64, 99] : List Int)) by kernel_rfl) (by rw [wrapA]; exact byte_c [64, 99] (by decide)) (byte_c [64, 99] (by decide))) fun a F => ?_
 rw [show decide ((gopd (wrapL reqA) 0).key = [64, 99]) = true from decide_eq_true (by rw [wrapA]; rfl)] at F
 refine la F rfl (x_pickT (F.t 27 rfl) rfl (F.t 32 rfl)) fun a F => la F rfl (x_move (F.t 33 rfl)) fun a F => ?_
 obtain ⟨fA2, fc2, hfr2, hf2_0, hf2_1, hf2_2, hf2_3, hf2_4, hf2_5, hf2_6, hf2_7, hf2_8, hf2_9, hf2_10, hfw2⟩ := rd_opd ((H.rd 14 rfl)) (gopd_some (xs := (wrapL reqA)) (i := 2) (by omega) (by omega))
 have H := H.subrd 14 rfl 2010 hfr2 (fun _ h => h)
 have H := H.subcels 14 rfl 2499 hfw2 (Rd.inok ((H.rd 14 rfl)) (by omega) _)
 have H := H.subcel 14 rfl 2500 hf2_0 (Rd.inok ((H.rd 14 rfl)) (by omega) _)
 have H := H.subcel 14 rfl 2501 hf2_1 (Rd.inok ((H.rd 14 rfl)) (by omega) _)
 have H := H.subcel 14 rfl 2502 hf2_2 (Rd.inok ((H.rd 14 rfl)) (by omega) _)
 have H := H.subcel 14 rfl 2503 hf2_3 (Rd.inok ((H.rd 14 rfl)) (by omega) _)
 have H := H.subcel 14 rfl 2504 hf2_4 (Rd.inok ((H.rd 14 rfl)) (by omega) _)
 have H := H.subcel 14 rfl 2505 hf2_5 (Rd.inok ((H.rd 14 rfl)) (by omega) _)
 have H := H.subcel 14 rfl 2506 hf2_6 (Rd.inok ((H.rd 14 rfl)) (by omega) _)
 have H := H.subcel 14 rfl 2507 hf2_7 (Rd.inok ((H.rd 14 rfl)) (by omega) _)
 have H := H.subcel 14 rfl 2508 hf2_8 (Rd.inok ((H.rd 14 rfl)) (by omega) _)
 have H := H.subcel 14 rfl 2509 hf2_9 (Rd.inok ((H.rd 14 rfl)) (by omega) _)
 have H := H.subcel 14 rfl 2510 hf2_10 (Rd.inok ((H.rd 14 rfl)) (by omega) _)
 refine lg F rfl (x_move (F.t 4 rfl)) fun a F => lg F rfl (x_iaddr_A Tryz.underlying37 ty93 ((H.rd 14 rfl)) (F.t 35 rfl) rfl (by omega) (by omega) _) fun a F => lg F rfl (x_faddrA ((H.rd 14 rfl)) (by omega) _ Tryz.underlying93 rfl ty91 (by decide) (F.t 36 rfl) rfl) fun a F => lg F rfl (x_faddrA (o' := Int.toNat 2 * 11 + 4) ((H.rd 14 rfl)) (by omega) _ Tryz.underlying91 rfl ty9 (by decide) (F.t 37 rfl) (Nat.add_assoc _ _ _)) fun a F => lg F rfl (x_load1 ty9 (F.t 38 rfl) (H.holds 2504 _ rfl)) fun a F => lg F rfl (x_eqn (xs := ((gopd (wrapL reqA) 2).step.2.2.1)) (ys := ([53] : List Int)) (F.t 39 rfl) (show _ = Value.string (strOfNums ([53] : List Int)) by kernel_rfl) (by rw [wrapA]; exact itoaI_byte 5) (byte_c [53] (by decide))) fun a F => ?_
 rw [show decide ((gopd (wrapL reqA) 2).step.2.2.1 = [53]) = true from decide_eq_true (by rw [wrapA]; exact itoa_5)] at F
 refine la F rfl (x_pickT (F.t 34 rfl) rfl (F.t 40 rfl)) fun a F => la F rfl (x_move (F.t 41 rfl)) fun a F => ?_
 refine lpo ((wo F rfl).trans rfl) ?_
 refine w_call F (x_enter Tryz.func53 (by kernel_rfl) rfl (by simp only [bM] <;> rfl)) (mark_calls (xs := [99]) _ (by decide)) rfl rfl ?_
 rintro _ w ⟨rfl, hm_⟩; refine ⟨_, rfl, ?_⟩; clear F; intro a F; have H := H.same hm_
 refine lg F rfl (x_eqn (xs := ([64] ++ [99])) (ys := ([64, 99] : List Int)) (F.t 43 rfl) (show _ = Value.string (strOfNums ([64, 99] : List Int)) by kernel_rfl) (byte_c [64, 99] (by decide)) (byte_c [64, 99] (by decide))) fun a F => ?_
 rw [show decide (([64] ++ [99] : List Int) = [64, 99]) = true from decide_eq_true rfl] at F
 refine la F rfl (x_pickT (F.t 42 rfl) rfl (F.t 44 rfl)) fun a F => la F rfl (x_assign (F.t 45 rfl)) fun a F => wn (hK5 _ _ ?_)
 refine wp_ret ?_
 try simp only [Exit.then, Exit.inBlock]
 exact fin_ret F (res1 (v := .bool true) F rfl rfl) ⟨rfl, H.mods⟩
end Go.Proofs.YtiiklnghnifmjaaGreatDoor.Act
