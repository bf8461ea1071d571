/- A request's bytes, as the document says, walked. -/
import Derived.Test.YtiiklnghnifmjaaGreatDoorSdcAZc
import Derived.Test.YtiiklnghnifmjaaGreatDoorRqdAZc
import Derived.Test.YtiiklnghnifmjaaGreatDoorRqsAZc
import Derived.Test.YtiiklnghnifmjaaGreatDoorRqwAZc
set_option linter.unusedVariables false
set_option maxRecDepth 100000
set_option maxHeartbeats 1000000
set_option linter.unusedSimpArgs false
namespace Go.Proofs.YtiiklnghnifmjaaGreatDoor.Act
open Go.RowKit Go.Proofs.YtiiklnghnifmjaaGreatDoor.Sx Go.Proofs.YtiiklnghnifmjaaGreatDoor.Cod Go.Proofs.YtiiklnghnifmjaaGreatDoor.Num
theorem wrapB2 {r : SReqD} (hb : SReqB r) : ∀ o ∈ wrapL r, OpB o := fun o ho => by
  cases hr : rightQ r with
  | true => exact wrap_B hb hr ho
  | false => rw [wrapL_no hr] at ho; cases ho
theorem sEnc_calls (w0 : World) (hL : LibAt true w0) {r : SReqD} {okr0 : Nat → Prop} {Ar0 : Option Addr} {cr0 : Nat} (hrr0 : Rd OpdE w0 okr0 Ar0 r.ops cr0) (hb : SReqB r) {ok : Nat → Prop} {A : Option Addr} {bs : List Int} {c : Nat} (hrb : Rd (.int .u8) w0 ok A bs c) (hby : Byte bs) : Calls Tryz.prog 4 #[.agg #[.string (strOfNums r.client), .int .i64 r.num, .slice Ar0 r.ops.length cr0], .slice A bs.length c] w0 fun e w' => e = .returned (.bool true) ∧ Mods (fun _ => False) w0 w' := by
  refine cow Tryz.func4 rfl Tryz.ntmps4 (Nat.le_of_ble_eq_true rfl) fun a F => ?_
  have H := Hp.nil (fun _ => False) w0
  have H := H.arg 910 hrr0.all (fun _ h => ⟨h, fun h => h⟩)
  have hler0 := hrr0.le; unfold maxLen at hler0
  have H := H.arg 901 hrb.all (fun _ h => ⟨h, fun h => h⟩)
  have hleb := hrb.le; unfold maxLen at hleb
  have H := H.libN 990 hL
  refine sr fun _ hK1 => ?_
  refine lp rfl ?_
  refine w_box 2 F H rfl (F.t 0 rfl) ?_
  clear F H; intro a w b2 F H
  refine la F rfl (x_assign rfl) fun a F => ?_
  refine wn (hK1 _ _ ?_)
  refine sr fun _ hK2 => ?_
  refine la F rfl (x_loadn ty39 (F.t 2 rfl) rfl (blk_whole (H.at 2 rfl))) fun a F => ?_
  refine lp rfl ?_
  refine w_call F (x_enter Tryz.func14 (by kernel_rfl) rfl (by simp only [bM, F.t 16 rfl] <;> rfl)) (fitsQ_calls (r := r) _ ((H.rd 910 rfl))) rfl rfl ?_
  rintro _ w ⟨bf_, rfl, hm_⟩; refine ⟨_, rfl, ?_⟩; clear F; intro a F; have H := H.same hm_
  refine la F rfl (x_assign (F.t 17 rfl)) fun a F => ?_
  refine wn (hK2 _ _ ?_)
  refine wp_seq_k fun _ hK3 => ?_
  refine sr fun _ hK4 => ?_
  refine la F rfl (x_move (F.t 5 rfl)) fun a F => ?_
  refine la F rfl (x_not (F.t 18 rfl)) fun a F => ?_
  refine la F rfl (x_move (F.t 19 rfl)) fun a F => ?_
  refine split_bool F 20 rfl (fun hb20 => ?_) (fun hb20 => ?_)
  · have hc20 := hb20; try simp only [bL] at hc20
    refine los F hb20 rfl fun a F => ?_
    refine los F hb20 rfl fun a F => ?_
    refine los F hb20 rfl fun a F => ?_
    refine la F rfl (x_pickT (F.t 20 rfl) hb20 rfl) fun a F => ?_
    refine wn (hK4 _ _ ?_)
    refine wp_cond_true (F.t 24 rfl) ?_
    refine sr fun _ hK5 => ?_
    refine lp rfl ?_
    refine w_call F (x_enter Tryz.func15 (by kernel_rfl) rfl (by simp only [bM] <;> rfl)) (qalive_calls _ (H.holds 990 _ rfl)) rfl rfl ?_
    rintro _ w ⟨rfl, hm_⟩; refine ⟨_, rfl, ?_⟩; clear F; intro a F; have H := H.same hm_
    refine la F rfl (x_assign (F.t 25 rfl)) fun a F => ?_
    refine wn (hK5 _ _ ?_)
    refine wp_ret ?_
    try simp only [Exit.then, Exit.inBlock]
    exact fin_ret F (res1 (v := .bool true) F rfl rfl) ⟨rfl, H.mods⟩
  · have hc20 := hb20; try simp only [bL] at hc20
    refine lgs F hb20 rfl (x_move (F.t 1 rfl)) fun a F => ?_
    refine lgs F hb20 rfl (x_len_slice Tryz.underlying27 (F.t 21 rfl)) fun a F => ?_
    refine lgs F hb20 rfl (x_gtr (F.t 22 rfl) rfl) fun a F => ?_
    refine la F rfl (x_pickF (F.t 20 rfl) hb20 (F.t 23 rfl)) fun a F => ?_
    refine wn (hK4 _ _ ?_)
    refine wp_cond_split (F.t 24 rfl) (fun hc24 => ?_) (fun hc24 => ?_)
    · have hk24_1 := hc24; try simp only [bL] at hc24
      refine sr fun _ hK6 => ?_
      refine lp rfl ?_
      refine w_call F (x_enter Tryz.func15 (by kernel_rfl) rfl (by simp only [bM] <;> rfl)) (qalive_calls _ (H.holds 990 _ rfl)) rfl rfl ?_
      rintro _ w ⟨rfl, hm_⟩; refine ⟨_, rfl, ?_⟩; clear F; intro a F; have H := H.same hm_
      refine la F rfl (x_assign (F.t 25 rfl)) fun a F => ?_
      refine wn (hK6 _ _ ?_)
      refine wp_ret ?_
      try simp only [Exit.then, Exit.inBlock]
      exact fin_ret F (res1 (v := .bool true) F rfl rfl) ⟨rfl, H.mods⟩
    · have hk24_2 := hc24; try simp only [bL] at hc24
      refine wp_skip ?_
      refine hK3 _ _ ?_
      refine sr fun _ hK7 => ?_
      refine la F rfl (x_loadn ty39 (F.t 2 rfl) rfl (blk_whole (H.at 2 rfl))) fun a F => ?_
      refine lp rfl ?_
      refine w_call F (x_enter Tryz.func16 (by kernel_rfl) rfl (by simp only [bM, F.t 27 rfl] <;> rfl)) (encQ_calls (r := r) _ (H.holds 990 _ rfl) ((H.rd 910 rfl)) hb) rfl rfl ?_
      rintro _ w ⟨vr28, rfl, hm_, hr_⟩; refine ⟨_, rfl, ?_⟩; clear F; intro a F; have H := Hp.rowOut H 28 hm_ hr_; obtain ⟨Ar28, cr28, rfl⟩ := (H.row 28 rfl).form
      refine la F rfl (x_move (F.t 28 rfl)) fun a F => ?_
      refine la F rfl (x_extract (F.t 26 rfl) rfl) fun a F => ?_
      refine la F rfl (x_extract (F.t 26 rfl) rfl) fun a F => ?_
      refine la F rfl (x_assign (F.t 29 rfl)) fun a F => ?_
      refine la F rfl (x_assign (F.t 30 rfl)) fun a F => ?_
      refine wn (hK7 _ _ ?_)
      refine sr fun _ hK8 => ?_
      refine la F rfl (x_loadn ty39 (F.t 2 rfl) rfl (blk_whole (H.at 2 rfl))) fun a F => ?_
      refine lp rfl ?_
      refine w_call F (x_enter Tryz.func18 (by kernel_rfl) rfl (by simp only [bM, F.t 32 rfl] <;> rfl)) (toldR_calls (r := r) _ ((H.rd 910 rfl))) rfl rfl ?_
      rintro _ w ⟨rfl, hm_⟩; refine ⟨_, rfl, ?_⟩; clear F; intro a F; have H := H.same hm_
      refine lp rfl ?_
      refine w_call F (x_enter Tryz.func17 (by kernel_rfl) rfl (by simp only [bM, F.t 33 rfl] <;> rfl)) (rencQ_calls (r := r) _ ((H.rd 910 rfl)) hb) rfl rfl ?_
      rintro _ w ⟨vr34, rfl, hm_, hr_⟩; refine ⟨_, rfl, ?_⟩; clear F; intro a F; have H := Hp.rowOut H 34 hm_ hr_; obtain ⟨Ar34, cr34, rfl⟩ := (H.row 34 rfl).form
      refine la F rfl (x_move (F.t 34 rfl)) fun a F => ?_
      refine la F rfl (x_extract (F.t 31 rfl) rfl) fun a F => ?_
      refine la F rfl (x_extract (F.t 31 rfl) rfl) fun a F => ?_
      refine la F rfl (x_assign (F.t 35 rfl)) fun a F => ?_
      refine la F rfl (x_assign (F.t 36 rfl)) fun a F => ?_
      refine wn (hK8 _ _ ?_)
      refine sr fun _ hK9 => ?_
      refine la F rfl (x_move (F.t 1 rfl)) fun a F => ?_
      refine lp rfl ?_
      refine w_call F (x_enter Tryz.func19 (by kernel_rfl) rfl (by simp only [bM, F.t 38 rfl] <;> rfl)) (decQ_calls (bs := bs) _ (H.holds 990 _ rfl) ((H.rd 901 rfl)) hby) rfl rfl ?_
      rintro _ w ⟨z, Ao70, co70, oko70, g70, rfl, hm_, h1_, hf_, hD70⟩; refine ⟨_, rfl, ?_⟩; clear F; intro a F; have H := ((H.same hm_).rdNew 70 (fun i A' hA k hk => H.inb i A' hA k (.inl hk)) h1_ hf_).1
      refine la F rfl (x_move (F.t 39 rfl)) fun a F => ?_
      refine la F rfl (x_extract (F.t 37 rfl) rfl) fun a F => ?_
      refine la F rfl (x_extract (F.t 37 rfl) rfl) fun a F => ?_
      refine lp rfl ?_
      refine w_alloc 10 F H rfl ty39 ?_
      clear F H; intro a w b10 F H
      refine lp rfl ?_
      refine w_storeA 10 H ty39 rfl (F.t 10 rfl) (F.t 40 rfl) rfl (by simp [Value.cells, Value.oneCell']) rfl ?_
      clear H; intro w H
      refine la F rfl (x_assign (F.t 41 rfl)) fun a F => ?_
      refine wn (hK9 _ _ ?_)
      refine sr fun _ hK10 => ?_
      refine la F rfl (x_move (F.t 1 rfl)) fun a F => ?_
      refine lp rfl ?_
      refine w_call F (x_enter Tryz.func20 (by kernel_rfl) rfl (by simp only [bM, F.t 43 rfl] <;> rfl)) (rdecQ_calls (bs := bs) _ ((H.rd 901 rfl)) hby) rfl rfl ?_
      rintro _ w ⟨y, Ao80, co80, oko80, g80, rfl, hm_, h1_, hf_, hD80⟩; refine ⟨_, rfl, ?_⟩; clear F; intro a F; have H := ((H.same hm_).rdNew 80 (fun i A' hA k hk => H.inb i A' hA k (.inl hk)) h1_ hf_).1
      refine la F rfl (x_move (F.t 44 rfl)) fun a F => ?_
      refine la F rfl (x_extract (F.t 42 rfl) rfl) fun a F => ?_
      refine la F rfl (x_extract (F.t 42 rfl) rfl) fun a F => ?_
      refine lp rfl ?_
      refine w_alloc 12 F H rfl ty43 ?_
      clear F H; intro a w b12 F H
      refine lp rfl ?_
      refine w_storeA 12 H ty43 rfl (F.t 12 rfl) (F.t 45 rfl) rfl (by simp [Value.cells, Value.oneCell']) rfl ?_
      clear H; intro w H
      refine la F rfl (x_assign (F.t 46 rfl)) fun a F => ?_
      refine wn (hK10 _ _ ?_)
      refine sr fun _ hK11 => ?_
      have hU := hD70.uniq hD80
      refine la F rfl (x_loadn ty39 (F.t 10 rfl) rfl (blk_whole (H.at 10 rfl))) fun a F => ?_
      refine la F rfl (x_loadn ty43 (F.t 12 rfl) rfl (blk_whole (H.at 12 rfl))) fun a F => ?_
      refine lp rfl ?_
      refine w_call F (x_enter Tryz.func21 (by kernel_rfl) rfl (by simp only [bM, F.t 47 rfl, F.t 48 rfl] <;> rfl)) (sameQ_calls _ ((H.rd 70 rfl)) ((H.rd 80 rfl)) hD70.1 hD80.1) rfl rfl ?_
      rintro _ w ⟨rfl, hm_⟩; refine ⟨_, rfl, ?_⟩; clear F; intro a F; have H := H.same hm_
      rw [decide_eq_true hU.1] at F
      refine la F rfl (x_assign (F.t 49 rfl)) fun a F => ?_
      refine wn (hK11 _ _ ?_)
      refine wp_seq_k fun _ hK12 => ?_
      refine r_start [(2, .blk b2 (.cells #[.string (strOfNums r.client), .int .i64 r.num, .slice Ar0 r.ops.length cr0] 39 (0, 0)))] (by kernel_rfl) H fun H => ?_
      have hS : SL [(2, .blk b2 (.cells #[.string (strOfNums r.client), .int .i64 r.num, .slice Ar0 r.ops.length cr0] 39 (0, 0)))] _ := SL.of H (sub_cons (sub_nil _) 2 rfl)
      refine rT 0 F rfl (by kernel_rfl) pq rfl hS (fun w hS => x_loadn ty39 (F.t 2 rfl) rfl (blk_whole (SL.at_ hS 2 rfl))) rfl fun a F => ?_
      refine rT 2 F rfl (by kernel_rfl) pq rfl hS (fun w hS => x_loadn ty39 (F.t 2 rfl) rfl (blk_whole (SL.at_ hS 2 rfl))) rfl fun a F => ?_
      refine r_do 1 rfl (by kernel_rfl) rfl rfl ?_
      refine w_call F (x_enter Tryz.func23 (by kernel_rfl) rfl (by simp only [bM, F.t 50 rfl] <;> rfl)) (wrap_calls (r := r) _ (H.holds 990 _ rfl) ((H.rd 910 rfl)) hb) rfl rfl ?_
      rintro _ w ⟨vr51, rfl, hm_, okr51, hr_, hf_, ho51_⟩; refine ⟨_, rfl, ?_⟩; clear F; intro a F; have H := H.newRow 51 hm_ hr_ hf_ ho51_; obtain ⟨Ar51, cr51, rfl⟩ := (H.row 51 rfl).form
      refine aN (SL.of H (sub_cons (sub_nil _) 2 rfl)) fun hS => ?_
      refine r_do 3 rfl (by kernel_rfl) rfl rfl ?_
      refine w_call F (x_enter Tryz.func18 (by kernel_rfl) rfl (by simp only [bM, F.t 52 rfl] <;> rfl)) (toldR_calls (r := r) _ ((H.rd 910 rfl))) rfl rfl ?_
      rintro _ w ⟨rfl, hm_⟩; refine ⟨_, rfl, ?_⟩; clear F; intro a F; have H := H.same hm_
      refine aN (SL.of H (sub_cons (sub_nil _) 2 rfl)) fun hS => ?_
      refine r_do 4 rfl (by kernel_rfl) rfl rfl ?_
      refine w_call F (x_enter Tryz.func24 (by kernel_rfl) rfl (by simp only [bM, F.t 53 rfl] <;> rfl)) (rwrap_calls (r := r) _ ((H.rd 910 rfl)) hb (fun k h => H.inb 910 _ rfl k (.inr h))) rfl rfl ?_
      rintro _ w ⟨Aw, cw, okw, rfl, hm_, hw_, hwo_⟩; refine ⟨_, rfl, ?_⟩; clear F; intro a F; have H := (H.same hm_).readable 60 hw_ (fun k h => (hwo_ k h).1) (fun j Y hY k hk hk2 => by have h1 := (H.mine j Y hY k hk).resolve_left (fun h => h); have h2 := H.inb j Y hY k (.inl hk); rcases (hwo_ k hk2).2 with h3 | h3 <;> omega)
      refine aN (SL.of H (sub_cons (sub_nil _) 2 rfl)) fun hS => ?_
      refine r_do 5 rfl (by kernel_rfl) rfl rfl ?_
      refine w_call F (x_enter Tryz.func22 (by kernel_rfl) rfl (by simp only [bM, F.t 51 rfl, F.t 54 rfl] <;> rfl)) (sameOs_calls _ (Row.rd (ok' := fun k_ => okr51 k_ ∨ (.slice Ar51 (wrapL r).length cr51 : Value).ownBlock = some k_) (H.row 51 rfl) (fun _ hk_ _ => .inl hk_) (fun _ hk_ => .inr hk_)) ((H.rd 60 rfl)) (wrapB2 hb) (wrapB2 hb)) rfl rfl ?_
      rintro _ w ⟨rfl, hm_⟩; refine ⟨_, rfl, ?_⟩; clear F; intro a F; have H := H.same hm_
      refine aN (SL.of H (sub_cons (sub_nil _) 2 rfl)) fun hS => ?_
      rw [decide_eq_true (rfl : wrapL r = wrapL r)] at F
      refine rT 6 F rfl (by kernel_rfl) pq rfl hS (fun w hS => x_assign (F.t 55 rfl)) rfl fun a F => ?_
      refine r_end (by kernel_rfl) ?_; clear hS
      refine hK12 _ _ ?_
      refine wp_seq_k fun _ hK13 => ?_
      refine r_start [(2, .blk b2 (.cells #[.string (strOfNums r.client), .int .i64 r.num, .slice Ar0 r.ops.length cr0] 39 (0, 0))), (28, .row (.int .u8) 5 (.slice Ar28 (encQ r).length cr28) (encQ r) (fun _ => False)), (34, .row (.int .u8) 5 (.slice Ar34 (encQ r).length cr34) (encQ r) (fun _ => False))] (by kernel_rfl) H fun H => ?_
      have hS : SL [(2, .blk b2 (.cells #[.string (strOfNums r.client), .int .i64 r.num, .slice Ar0 r.ops.length cr0] 39 (0, 0))), (28, .row (.int .u8) 5 (.slice Ar28 (encQ r).length cr28) (encQ r) (fun _ => False)), (34, .row (.int .u8) 5 (.slice Ar34 (encQ r).length cr34) (encQ r) (fun _ => False))] _ := SL.of H (sub_cons (sub_cons (sub_cons (sub_nil _) 34 rfl) 28 rfl) 2 rfl)
      refine r_do 0 rfl (by kernel_rfl) rfl rfl ?_
      refine w_call F (x_enter Tryz.func15 (by kernel_rfl) rfl (by simp only [bM] <;> rfl)) (qalive_calls _ (H.holds 990 _ rfl)) rfl rfl ?_
      rintro _ w ⟨rfl, hm_⟩; refine ⟨_, rfl, ?_⟩; clear F; intro a F; have H := H.same hm_
      refine aN (SL.of H (sub_cons (sub_cons (sub_cons (sub_nil _) 34 rfl) 28 rfl) 2 rfl)) fun hS => ?_
      refine rT 1 F rfl (by kernel_rfl) pq rfl hS (fun w hS => x_move (F.t 56 rfl)) rfl fun a F => ?_
      refine rT 2 F rfl (by kernel_rfl) pq ((wo F rfl).trans rfl) hS (fun w hS => x_loadn ty39 (F.t 2 rfl) rfl (blk_whole (SL.at_ hS 2 rfl))) rfl fun a F => ?_
      refine rT 4 F rfl (by kernel_rfl) pq ((wo F rfl).trans rfl) hS (fun w hS => x_loadn ty39 (F.t 2 rfl) rfl (blk_whole (SL.at_ hS 2 rfl))) rfl fun a F => ?_
      refine r_do 3 rfl (by kernel_rfl) ((wo F rfl).trans rfl) rfl ?_
      refine w_call F (x_enter Tryz.func25 (by kernel_rfl) rfl (by simp only [bM, F.t 58 rfl] <;> rfl)) (rightQ_calls (r := r) _ (H.holds 990 _ rfl) ((H.rd 910 rfl)) hb) rfl rfl ?_
      rintro _ w ⟨rfl, hm_⟩; refine ⟨_, rfl, ?_⟩; clear F; intro a F; have H := H.same hm_
      refine aN (SL.of H (sub_cons (sub_cons (sub_cons (sub_nil _) 34 rfl) 28 rfl) 2 rfl)) fun hS => ?_
      refine r_do 5 rfl (by kernel_rfl) ((wo F rfl).trans rfl) rfl ?_
      refine w_call F (x_enter Tryz.func18 (by kernel_rfl) rfl (by simp only [bM, F.t 60 rfl] <;> rfl)) (toldR_calls (r := r) _ ((H.rd 910 rfl))) rfl rfl ?_
      rintro _ w ⟨rfl, hm_⟩; refine ⟨_, rfl, ?_⟩; clear F; intro a F; have H := H.same hm_
      refine aN (SL.of H (sub_cons (sub_cons (sub_cons (sub_nil _) 34 rfl) 28 rfl) 2 rfl)) fun hS => ?_
      refine r_do 6 rfl (by kernel_rfl) ((wo F rfl).trans rfl) rfl ?_
      refine w_call F (x_enter Tryz.func26 (by kernel_rfl) rfl (by simp only [bM, F.t 61 rfl] <;> rfl)) (r22right_calls (r := r) _ ((H.rd 910 rfl)) hb) rfl rfl ?_
      rintro _ w ⟨rfl, hm_⟩; refine ⟨_, rfl, ?_⟩; clear F; intro a F; have H := H.same hm_
      refine aN (SL.of H (sub_cons (sub_cons (sub_cons (sub_nil _) 34 rfl) 28 rfl) 2 rfl)) fun hS => ?_
      refine rT 7 F rfl (by kernel_rfl) pq ((wo F rfl).trans rfl) hS (fun w hS => x_eqb (F.t 59 rfl) (F.t 62 rfl) Tryz.underlying4) rfl fun a F => ?_
      rw [beq_self_eq_true (rightQ r)] at F
      refine rT 8 F rfl (by kernel_rfl) pq rfl hS (fun w hS => x_pickT (F.t 57 rfl) rfl (F.t 63 rfl)) rfl fun a F => ?_
      refine rT 9 F rfl (by kernel_rfl) pq rfl hS (fun w hS => x_move (F.t 64 rfl)) rfl fun a F => ?_
      refine rT 10 F rfl (by kernel_rfl) pq ((wo F rfl).trans rfl) hS (fun w hS => x_move (F.t 6 rfl)) rfl fun a F => ?_
      refine rT 11 F rfl (by kernel_rfl) pq ((wo F rfl).trans rfl) hS (fun w hS => x_b2s Tryz.underlying27 Tryz.underlying5 Tryz.underlying9 (Row.rd (ok' := fun k_ => (fun _ => False) k_ ∨ (.slice Ar28 (encQ r).length cr28 : Value).ownBlock = some k_) (SL.row hS 28 rfl) (fun _ hk_ _ => .inl hk_) (fun _ hk_ => .inr hk_)) (F.t 66 rfl)) rfl fun a F => ?_
      refine rT 12 F rfl (by kernel_rfl) pq ((wo F rfl).trans rfl) hS (fun w hS => x_move (F.t 8 rfl)) rfl fun a F => ?_
      refine rT 13 F rfl (by kernel_rfl) pq ((wo F rfl).trans rfl) hS (fun w hS => x_b2s Tryz.underlying27 Tryz.underlying5 Tryz.underlying9 (Row.rd (ok' := fun k_ => (fun _ => False) k_ ∨ (.slice Ar34 (encQ r).length cr34 : Value).ownBlock = some k_) (SL.row hS 34 rfl) (fun _ hk_ _ => .inl hk_) (fun _ hk_ => .inr hk_)) (F.t 68 rfl)) rfl fun a F => ?_
      refine rT 14 F rfl (by kernel_rfl) pq ((wo F rfl).trans rfl) hS (fun w hS => x_eqn (xs := (encQ r)) (ys := (encQ r)) (F.t 67 rfl) (F.t 69 rfl) (encQ_byte hb) (encQ_byte hb)) rfl fun a F => ?_
      rw [decide_eq_true (rfl : encQ r = encQ r)] at F
      refine rT 15 F rfl (by kernel_rfl) pq rfl hS (fun w hS => x_pickT (F.t 65 rfl) rfl (F.t 70 rfl)) rfl fun a F => ?_
      refine rT 16 F rfl (by kernel_rfl) pq rfl hS (fun w hS => x_move (F.t 71 rfl)) rfl fun a F => ?_
      refine rT 17 F rfl (by kernel_rfl) pq ((wo F rfl).trans rfl) hS (fun w hS => x_move (F.t 7 rfl)) rfl fun a F => ?_
      refine rT 18 F rfl (by kernel_rfl) pq ((wo F rfl).trans rfl) hS (fun w hS => x_move (F.t 9 rfl)) rfl fun a F => ?_
      refine rT 19 F rfl (by kernel_rfl) pq ((wo F rfl).trans rfl) hS (fun w hS => x_eql (F.t 73 rfl) (F.t 74 rfl)) rfl fun a F => ?_
      rw [decide_eq_true (rfl : encQE r = encQE r)] at F
      refine rT 20 F rfl (by kernel_rfl) pq rfl hS (fun w hS => x_pickT (F.t 72 rfl) rfl (F.t 75 rfl)) rfl fun a F => ?_
      refine rT 21 F rfl (by kernel_rfl) pq rfl hS (fun w hS => x_move (F.t 76 rfl)) rfl fun a F => ?_
      refine rT 22 F rfl (by kernel_rfl) pq ((wo F rfl).trans rfl) hS (fun w hS => x_move (F.t 14 rfl)) rfl fun a F => ?_
      refine rT 23 F rfl (by kernel_rfl) pq rfl hS (fun w hS => x_pickT (F.t 77 rfl) rfl (F.t 78 rfl)) rfl fun a F => ?_
      refine rT 24 F rfl (by kernel_rfl) pq rfl hS (fun w hS => x_move (F.t 79 rfl)) rfl fun a F => ?_
      refine rT 25 F rfl (by kernel_rfl) pq ((wo F rfl).trans rfl) hS (fun w hS => x_move (F.t 11 rfl)) rfl fun a F => ?_
      refine rT 26 F rfl (by kernel_rfl) pq ((wo F rfl).trans rfl) hS (fun w hS => x_move (F.t 13 rfl)) rfl fun a F => ?_
      refine rT 27 F rfl (by kernel_rfl) pq ((wo F rfl).trans rfl) hS (fun w hS => x_eql (F.t 81 rfl) (F.t 82 rfl)) rfl fun a F => ?_
      rw [decide_eq_true hU.2] at F
      refine rT 28 F rfl (by kernel_rfl) pq rfl hS (fun w hS => x_pickT (F.t 80 rfl) rfl (F.t 83 rfl)) rfl fun a F => ?_
      refine rT 29 F rfl (by kernel_rfl) pq rfl hS (fun w hS => x_move (F.t 84 rfl)) rfl fun a F => ?_
      refine rT 30 F rfl (by kernel_rfl) pq ((wo F rfl).trans rfl) hS (fun w hS => x_move (F.t 15 rfl)) rfl fun a F => ?_
      refine rT 31 F rfl (by kernel_rfl) pq rfl hS (fun w hS => x_pickT (F.t 85 rfl) rfl (F.t 86 rfl)) rfl fun a F => ?_
      refine rT 32 F rfl (by kernel_rfl) pq rfl hS (fun w hS => x_assign (F.t 87 rfl)) rfl fun a F => ?_
      refine r_end (by kernel_rfl) ?_; clear hS
      refine hK13 _ _ ?_
      refine wp_ret ?_
      try simp only [Exit.then, Exit.inBlock]
      exact fin_ret F (res1 (v := .bool true) F rfl rfl) ⟨rfl, H.mods⟩
end Go.Proofs.YtiiklnghnifmjaaGreatDoor.Act
