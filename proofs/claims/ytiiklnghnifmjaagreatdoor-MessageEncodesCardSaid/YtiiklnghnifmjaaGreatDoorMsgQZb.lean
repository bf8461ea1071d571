/- A message's bytes, as the document says, walked. -/
import Derived.Test.YtiiklnghnifmjaaGreatDoorMsgCZb
import Derived.Test.YtiiklnghnifmjaaGreatDoorMdcAZb
import Derived.Test.YtiiklnghnifmjaaGreatDoorRdeAZb
set_option linter.unusedVariables false
set_option maxRecDepth 100000
set_option maxHeartbeats 1000000
set_option linter.unusedSimpArgs false
namespace Go.Proofs.YtiiklnghnifmjaaGreatDoor.Act
open Go.RowKit Go.Proofs.YtiiklnghnifmjaaGreatDoor.Sx Go.Proofs.YtiiklnghnifmjaaGreatDoor.Cod Go.Proofs.YtiiklnghnifmjaaGreatDoor.Num
theorem mEnc_calls (w0 : World) (hL : LibAt true w0) {m : MessageD} {okm0 : Nat → Prop} {Am0 : Option Addr} {cm0 : Nat} (hrm0 : Rd (Rep.int .i64) w0 okm0 Am0 m.nodes cm0) {okm1 : Nat → Prop} {Am1 : Option Addr} {cm1 : Nat} (hrm1 : Rd ChgE w0 okm1 Am1 m.changes cm1) (hb : MessageB m) {ok : Nat → Prop} {A : Option Addr} {bs : List Int} {c : Nat} (hrb : Rd (.int .u8) w0 ok A bs c) (hby : Byte bs) : Calls Tryz.prog 3 #[.agg #[.int .i64 m.kind, .int .i64 m.src, .int .i64 m.dst, .int .i64 m.tx, .slice Am0 m.nodes.length cm0, .slice Am1 m.changes.length cm1], .slice A bs.length c] w0 fun e w' => e = .returned (.bool true) ∧ Mods (fun _ => False) w0 w' := by
  refine cow Tryz.func3 rfl Tryz.ntmps3 (Nat.le_of_ble_eq_true rfl) fun a F => ?_
  have H := Hp.nil (fun _ => False) w0
  have H := H.arg 910 hrm0.all (fun _ h => ⟨h, fun h => h⟩)
  have hlem0 := hrm0.le; unfold maxLen at hlem0
  have H := H.arg 911 hrm1.all (fun _ h => ⟨h, fun h => h⟩)
  have hlem1 := hrm1.le; unfold maxLen at hlem1
  have H := H.arg 901 hrb.all (fun _ h => ⟨h, fun h => h⟩)
  have hleb := hrb.le; unfold maxLen at hleb
  have H := H.libN 990 hL
  refine sr fun _ hK1 => ?_
  refine lp rfl ?_
  refine w_box 2 F H rfl (F.t 0 rfl) ?_
  clear F H; intro a w b2 F H
  refine la F rfl (x_assign rfl) fun a F => ?_
  refine wn (hK1 _ _ ?_)
  refine sr fun _ hK2 => ?_
  refine la F rfl (x_loadn ty26 (F.t 2 rfl) rfl (blk_whole (H.at 2 rfl))) fun a F => ?_
  refine lp rfl ?_
  refine w_call F (x_enter Tryz.func5 (by kernel_rfl) rfl (by simp only [bM, F.t 15 rfl] <;> rfl)) (fitsM_calls _ ((H.rd 910 rfl)) ((H.rd 911 rfl))) rfl rfl ?_
  rintro _ w ⟨bf_, rfl, hm_⟩; refine ⟨_, rfl, ?_⟩; clear F; intro a F; have H := H.same hm_
  refine la F rfl (x_assign (F.t 16 rfl)) fun a F => ?_
  refine wn (hK2 _ _ ?_)
  refine wp_seq_k fun _ hK3 => ?_
  refine sr fun _ hK4 => ?_
  refine la F rfl (x_move (F.t 5 rfl)) fun a F => ?_
  refine la F rfl (x_not (F.t 17 rfl)) fun a F => ?_
  refine la F rfl (x_move (F.t 18 rfl)) fun a F => ?_
  refine split_bool F 19 rfl (fun hb19 => ?_) (fun hb19 => ?_)
  · have hc19 := hb19; try simp only [bL] at hc19
    refine los F hb19 rfl fun a F => ?_
    refine los F hb19 rfl fun a F => ?_
    refine los F hb19 rfl fun a F => ?_
    refine la F rfl (x_pickT (F.t 19 rfl) hb19 rfl) fun a F => ?_
    refine wn (hK4 _ _ ?_)
    refine wp_cond_true (F.t 23 rfl) ?_
    refine sr fun _ hK5 => ?_
    refine lp rfl ?_
    refine w_call F (x_enter Tryz.func6 (by kernel_rfl) rfl (by simp only [bM] <;> rfl)) (malive_calls _ (H.holds 990 _ rfl)) rfl rfl ?_
    rintro _ w ⟨rfl, hm_⟩; refine ⟨_, rfl, ?_⟩; clear F; intro a F; have H := H.same hm_
    refine la F rfl (x_assign (F.t 24 rfl)) fun a F => ?_
    refine wn (hK5 _ _ ?_)
    refine wp_ret ?_
    try simp only [Exit.then, Exit.inBlock]
    exact fin_ret F (res1 (v := .bool true) F rfl rfl) ⟨rfl, H.mods⟩
  · have hc19 := hb19; try simp only [bL] at hc19
    refine lgs F hb19 rfl (x_move (F.t 1 rfl)) fun a F => ?_
    refine lgs F hb19 rfl (x_len_slice Tryz.underlying27 (F.t 20 rfl)) fun a F => ?_
    refine lgs F hb19 rfl (x_gtr (F.t 21 rfl) rfl) fun a F => ?_
    refine la F rfl (x_pickF (F.t 19 rfl) hb19 (F.t 22 rfl)) fun a F => ?_
    refine wn (hK4 _ _ ?_)
    refine wp_cond_split (F.t 23 rfl) (fun hc23 => ?_) (fun hc23 => ?_)
    · have hk23_1 := hc23; try simp only [bL] at hc23
      refine sr fun _ hK6 => ?_
      refine lp rfl ?_
      refine w_call F (x_enter Tryz.func6 (by kernel_rfl) rfl (by simp only [bM] <;> rfl)) (malive_calls _ (H.holds 990 _ rfl)) rfl rfl ?_
      rintro _ w ⟨rfl, hm_⟩; refine ⟨_, rfl, ?_⟩; clear F; intro a F; have H := H.same hm_
      refine la F rfl (x_assign (F.t 24 rfl)) fun a F => ?_
      refine wn (hK6 _ _ ?_)
      refine wp_ret ?_
      try simp only [Exit.then, Exit.inBlock]
      exact fin_ret F (res1 (v := .bool true) F rfl rfl) ⟨rfl, H.mods⟩
    · have hk23_2 := hc23; try simp only [bL] at hc23
      refine wp_skip ?_
      refine hK3 _ _ ?_
      refine sr fun _ hK7 => ?_
      refine la F rfl (x_loadn ty26 (F.t 2 rfl) rfl (blk_whole (H.at 2 rfl))) fun a F => ?_
      refine lp rfl ?_
      refine w_call F (x_enter Tryz.func7 (by kernel_rfl) rfl (by simp only [bM, F.t 26 rfl] <;> rfl)) (encM_calls (m := m) _ (H.holds 990 _ rfl) ((H.rd 910 rfl)) ((H.rd 911 rfl)) hb) rfl rfl ?_
      rintro _ w ⟨vr27, rfl, hm_, hr_⟩; refine ⟨_, rfl, ?_⟩; clear F; intro a F; have H := Hp.rowOut H 27 hm_ hr_; obtain ⟨Ar27, cr27, rfl⟩ := (H.row 27 rfl).form
      refine la F rfl (x_move (F.t 27 rfl)) fun a F => ?_
      refine la F rfl (x_extract (F.t 25 rfl) rfl) fun a F => ?_
      refine la F rfl (x_extract (F.t 25 rfl) rfl) fun a F => ?_
      refine la F rfl (x_assign (F.t 28 rfl)) fun a F => ?_
      refine la F rfl (x_assign (F.t 29 rfl)) fun a F => ?_
      refine wn (hK7 _ _ ?_)
      refine sr fun _ hK8 => ?_
      refine la F rfl (x_loadn ty26 (F.t 2 rfl) rfl (blk_whole (H.at 2 rfl))) fun a F => ?_
      refine lp rfl ?_
      refine w_call F (x_enter Tryz.func8 (by kernel_rfl) rfl (by simp only [bM, F.t 31 rfl] <;> rfl)) (rencM_calls (m := m) _ ((H.rd 910 rfl)) ((H.rd 911 rfl)) hb) rfl rfl ?_
      rintro _ w ⟨vr32, rfl, hm_, hr_⟩; refine ⟨_, rfl, ?_⟩; clear F; intro a F; have H := Hp.rowOut H 32 hm_ hr_; obtain ⟨Ar32, cr32, rfl⟩ := (H.row 32 rfl).form
      refine la F rfl (x_move (F.t 32 rfl)) fun a F => ?_
      refine la F rfl (x_extract (F.t 30 rfl) rfl) fun a F => ?_
      refine la F rfl (x_extract (F.t 30 rfl) rfl) fun a F => ?_
      refine la F rfl (x_assign (F.t 33 rfl)) fun a F => ?_
      refine la F rfl (x_assign (F.t 34 rfl)) fun a F => ?_
      refine wn (hK8 _ _ ?_)
      refine sr fun _ hK9 => ?_
      refine la F rfl (x_move (F.t 1 rfl)) fun a F => ?_
      refine lp rfl ?_
      refine w_call F (x_enter Tryz.func9 (by kernel_rfl) rfl (by simp only [bM, F.t 36 rfl] <;> rfl)) (decM_calls (bs := bs) _ (H.holds 990 _ rfl) ((H.rd 901 rfl)) hby) rfl rfl ?_
      rintro _ w ⟨z, An70, cn70, Ac70, cc70, okz70, g70, rfl, hm_, h1_, h2_, hf_, hD70⟩; refine ⟨_, rfl, ?_⟩; clear F; intro a F; have h3_ := (H.same hm_).rdNew 70 (fun i A' hA k hk => H.inb i A' hA k (.inl hk)) h1_ hf_; have H := (h3_.1.rdNew 71 h3_.2 h2_ hf_).1
      refine la F rfl (x_move (F.t 37 rfl)) fun a F => ?_
      refine la F rfl (x_extract (F.t 35 rfl) rfl) fun a F => ?_
      refine la F rfl (x_extract (F.t 35 rfl) rfl) fun a F => ?_
      refine lp rfl ?_
      refine w_alloc 10 F H rfl ty26 ?_
      clear F H; intro a w b10 F H
      refine lp rfl ?_
      refine w_storeA 10 H ty26 rfl (F.t 10 rfl) (F.t 38 rfl) rfl (by simp [Value.cells, Value.oneCell']) rfl ?_
      clear H; intro w H
      refine la F rfl (x_assign (F.t 39 rfl)) fun a F => ?_
      refine wn (hK9 _ _ ?_)
      refine sr fun _ hK10 => ?_
      refine la F rfl (x_move (F.t 1 rfl)) fun a F => ?_
      refine lp rfl ?_
      refine w_call F (x_enter Tryz.func10 (by kernel_rfl) rfl (by simp only [bM, F.t 41 rfl] <;> rfl)) (rdecM_calls (bs := bs) _ ((H.rd 901 rfl)) hby) rfl rfl ?_
      rintro _ w ⟨y, An80, cn80, Ac80, cc80, okz80, g80, rfl, hm_, h1_, h2_, hf_, hD80⟩; refine ⟨_, rfl, ?_⟩; clear F; intro a F; have h3_ := (H.same hm_).rdNew 80 (fun i A' hA k hk => H.inb i A' hA k (.inl hk)) h1_ hf_; have H := (h3_.1.rdNew 81 h3_.2 h2_ hf_).1
      refine la F rfl (x_move (F.t 42 rfl)) fun a F => ?_
      refine la F rfl (x_extract (F.t 40 rfl) rfl) fun a F => ?_
      refine la F rfl (x_extract (F.t 40 rfl) rfl) fun a F => ?_
      refine lp rfl ?_
      refine w_alloc 12 F H rfl ty26 ?_
      clear F H; intro a w b12 F H
      refine lp rfl ?_
      refine w_storeA 12 H ty26 rfl (F.t 12 rfl) (F.t 43 rfl) rfl (by simp [Value.cells, Value.oneCell']) rfl ?_
      clear H; intro w H
      refine la F rfl (x_assign (F.t 44 rfl)) fun a F => ?_
      refine wn (hK10 _ _ ?_)
      refine sr fun _ hK11 => ?_
      have hU := hD70.uniq hD80
      refine la F rfl (x_loadn ty26 (F.t 10 rfl) rfl (blk_whole (H.at 10 rfl))) fun a F => ?_
      refine la F rfl (x_loadn ty26 (F.t 12 rfl) rfl (blk_whole (H.at 12 rfl))) fun a F => ?_
      refine lp rfl ?_
      refine w_call F (x_enter Tryz.func11 (by kernel_rfl) rfl (by simp only [bM, F.t 45 rfl, F.t 46 rfl] <;> rfl)) (r16same_calls _ ((H.rd 70 rfl)) ((H.rd 71 rfl)) ((H.rd 80 rfl)) ((H.rd 81 rfl)) hD70.1 hD80.1) rfl rfl ?_
      rintro _ w ⟨rfl, hm_⟩; refine ⟨_, rfl, ?_⟩; clear F; intro a F; have H := H.same hm_
      rw [decide_eq_true hU.1] at F
      refine la F rfl (x_assign (F.t 47 rfl)) fun a F => ?_
      refine wn (hK11 _ _ ?_)
      refine wp_seq_k fun _ hK12 => ?_
      refine r_start [(2, .blk b2 (.cells #[.int .i64 m.kind, .int .i64 m.src, .int .i64 m.dst, .int .i64 m.tx, .slice Am0 m.nodes.length cm0, .slice Am1 m.changes.length cm1] 26 (0, 0))), (27, .row (.int .u8) 5 (.slice Ar27 (encM m).length cr27) (encM m) (fun _ => False)), (32, .row (.int .u8) 5 (.slice Ar32 (encM m).length cr32) (encM m) (fun _ => False))] (by kernel_rfl) H fun H => ?_
      have hS : SL [(2, .blk b2 (.cells #[.int .i64 m.kind, .int .i64 m.src, .int .i64 m.dst, .int .i64 m.tx, .slice Am0 m.nodes.length cm0, .slice Am1 m.changes.length cm1] 26 (0, 0))), (27, .row (.int .u8) 5 (.slice Ar27 (encM m).length cr27) (encM m) (fun _ => False)), (32, .row (.int .u8) 5 (.slice Ar32 (encM m).length cr32) (encM m) (fun _ => False))] _ := SL.of H (sub_cons (sub_cons (sub_cons (sub_nil _) 32 rfl) 27 rfl) 2 rfl)
      refine r_do 0 rfl (by kernel_rfl) rfl rfl ?_
      refine w_call F (x_enter Tryz.func6 (by kernel_rfl) rfl (by simp only [bM] <;> rfl)) (malive_calls _ (H.holds 990 _ rfl)) rfl rfl ?_
      rintro _ w ⟨rfl, hm_⟩; refine ⟨_, rfl, ?_⟩; clear F; intro a F; have H := H.same hm_
      refine aN (SL.of H (sub_cons (sub_cons (sub_cons (sub_nil _) 32 rfl) 27 rfl) 2 rfl)) fun hS => ?_
      refine rT 1 F rfl (by kernel_rfl) pq rfl hS (fun w hS => x_move (F.t 48 rfl)) rfl fun a F => ?_
      refine rT 2 F rfl (by kernel_rfl) pq ((wo F rfl).trans rfl) hS (fun w hS => x_loadn ty26 (F.t 2 rfl) rfl (blk_whole (SL.at_ hS 2 rfl))) rfl fun a F => ?_
      refine rT 4 F rfl (by kernel_rfl) pq ((wo F rfl).trans rfl) hS (fun w hS => x_loadn ty26 (F.t 2 rfl) rfl (blk_whole (SL.at_ hS 2 rfl))) rfl fun a F => ?_
      refine r_do 3 rfl (by kernel_rfl) ((wo F rfl).trans rfl) rfl ?_
      refine w_call F (x_enter Tryz.func12 (by kernel_rfl) rfl (by simp only [bM, F.t 50 rfl] <;> rfl)) (rightM_calls (m := m) _ (H.holds 990 _ rfl) ((H.rd 910 rfl)) ((H.rd 911 rfl)) hb) rfl rfl ?_
      rintro _ w ⟨rfl, hm_⟩; refine ⟨_, rfl, ?_⟩; clear F; intro a F; have H := H.same hm_
      refine aN (SL.of H (sub_cons (sub_cons (sub_cons (sub_nil _) 32 rfl) 27 rfl) 2 rfl)) fun hS => ?_
      refine r_do 5 rfl (by kernel_rfl) ((wo F rfl).trans rfl) rfl ?_
      refine w_call F (x_enter Tryz.func13 (by kernel_rfl) rfl (by simp only [bM, F.t 52 rfl] <;> rfl)) (r16right_calls (m := m) _ ((H.rd 910 rfl)) ((H.rd 911 rfl)) hb) rfl rfl ?_
      rintro _ w ⟨rfl, hm_⟩; refine ⟨_, rfl, ?_⟩; clear F; intro a F; have H := H.same hm_
      refine aN (SL.of H (sub_cons (sub_cons (sub_cons (sub_nil _) 32 rfl) 27 rfl) 2 rfl)) fun hS => ?_
      refine rT 6 F rfl (by kernel_rfl) pq ((wo F rfl).trans rfl) hS (fun w hS => x_eqb (F.t 51 rfl) (F.t 53 rfl) Tryz.underlying4) rfl fun a F => ?_
      rw [beq_self_eq_true (rightM m)] at F
      refine rT 7 F rfl (by kernel_rfl) pq rfl hS (fun w hS => x_pickT (F.t 49 rfl) rfl (F.t 54 rfl)) rfl fun a F => ?_
      refine rT 8 F rfl (by kernel_rfl) pq rfl hS (fun w hS => x_move (F.t 55 rfl)) rfl fun a F => ?_
      refine rT 9 F rfl (by kernel_rfl) pq ((wo F rfl).trans rfl) hS (fun w hS => x_move (F.t 6 rfl)) rfl fun a F => ?_
      refine rT 10 F rfl (by kernel_rfl) pq ((wo F rfl).trans rfl) hS (fun w hS => x_b2s Tryz.underlying27 Tryz.underlying5 Tryz.underlying9 (Row.rd (ok' := fun k_ => (fun _ => False) k_ ∨ (.slice Ar27 (encM m).length cr27 : Value).ownBlock = some k_) (SL.row hS 27 rfl) (fun _ hk_ _ => .inl hk_) (fun _ hk_ => .inr hk_)) (F.t 57 rfl)) rfl fun a F => ?_
      refine rT 11 F rfl (by kernel_rfl) pq ((wo F rfl).trans rfl) hS (fun w hS => x_move (F.t 8 rfl)) rfl fun a F => ?_
      refine rT 12 F rfl (by kernel_rfl) pq ((wo F rfl).trans rfl) hS (fun w hS => x_b2s Tryz.underlying27 Tryz.underlying5 Tryz.underlying9 (Row.rd (ok' := fun k_ => (fun _ => False) k_ ∨ (.slice Ar32 (encM m).length cr32 : Value).ownBlock = some k_) (SL.row hS 32 rfl) (fun _ hk_ _ => .inl hk_) (fun _ hk_ => .inr hk_)) (F.t 59 rfl)) rfl fun a F => ?_
      refine rT 13 F rfl (by kernel_rfl) pq ((wo F rfl).trans rfl) hS (fun w hS => x_eqn (xs := (encM m)) (ys := (encM m)) (F.t 58 rfl) (F.t 60 rfl) (encM_byte hb) (encM_byte hb)) rfl fun a F => ?_
      rw [decide_eq_true (rfl : encM m = encM m)] at F
      refine rT 14 F rfl (by kernel_rfl) pq rfl hS (fun w hS => x_pickT (F.t 56 rfl) rfl (F.t 61 rfl)) rfl fun a F => ?_
      refine rT 15 F rfl (by kernel_rfl) pq rfl hS (fun w hS => x_move (F.t 62 rfl)) rfl fun a F => ?_
      refine rT 16 F rfl (by kernel_rfl) pq ((wo F rfl).trans rfl) hS (fun w hS => x_move (F.t 7 rfl)) rfl fun a F => ?_
      refine rT 17 F rfl (by kernel_rfl) pq ((wo F rfl).trans rfl) hS (fun w hS => x_move (F.t 9 rfl)) rfl fun a F => ?_
      refine rT 18 F rfl (by kernel_rfl) pq ((wo F rfl).trans rfl) hS (fun w hS => x_eql (F.t 64 rfl) (F.t 65 rfl)) rfl fun a F => ?_
      rw [decide_eq_true (rfl : encME m = encME m)] at F
      refine rT 19 F rfl (by kernel_rfl) pq rfl hS (fun w hS => x_pickT (F.t 63 rfl) rfl (F.t 66 rfl)) rfl fun a F => ?_
      refine rT 20 F rfl (by kernel_rfl) pq rfl hS (fun w hS => x_move (F.t 67 rfl)) rfl fun a F => ?_
      refine rT 21 F rfl (by kernel_rfl) pq ((wo F rfl).trans rfl) hS (fun w hS => x_move (F.t 14 rfl)) rfl fun a F => ?_
      refine rT 22 F rfl (by kernel_rfl) pq rfl hS (fun w hS => x_pickT (F.t 68 rfl) rfl (F.t 69 rfl)) rfl fun a F => ?_
      refine rT 23 F rfl (by kernel_rfl) pq rfl hS (fun w hS => x_move (F.t 70 rfl)) rfl fun a F => ?_
      refine rT 24 F rfl (by kernel_rfl) pq ((wo F rfl).trans rfl) hS (fun w hS => x_move (F.t 11 rfl)) rfl fun a F => ?_
      refine rT 25 F rfl (by kernel_rfl) pq ((wo F rfl).trans rfl) hS (fun w hS => x_move (F.t 13 rfl)) rfl fun a F => ?_
      refine rT 26 F rfl (by kernel_rfl) pq ((wo F rfl).trans rfl) hS (fun w hS => x_eql (F.t 72 rfl) (F.t 73 rfl)) rfl fun a F => ?_
      rw [decide_eq_true hU.2] at F
      refine rT 27 F rfl (by kernel_rfl) pq rfl hS (fun w hS => x_pickT (F.t 71 rfl) rfl (F.t 74 rfl)) rfl fun a F => ?_
      refine rT 28 F rfl (by kernel_rfl) pq rfl hS (fun w hS => x_assign (F.t 75 rfl)) rfl fun a F => ?_
      refine r_end (by kernel_rfl) ?_; clear hS
      refine hK12 _ _ ?_
      refine wp_ret ?_
      try simp only [Exit.then, Exit.inBlock]
      exact fin_ret F (res1 (v := .bool true) F rfl rfl) ⟨rfl, H.mods⟩
end Go.Proofs.YtiiklnghnifmjaaGreatDoor.Act
