/- A request's transaction, as the document has it, walked. -/
import Derived.Test.YtiiklnghnifmjaaGreatDoorRefAZc
set_option linter.unusedVariables false
set_option maxRecDepth 100000
set_option maxHeartbeats 1000000
set_option linter.unusedSimpArgs false
namespace Go.Proofs.YtiiklnghnifmjaaGreatDoor.Act
open Go.RowKit Go.Proofs.YtiiklnghnifmjaaGreatDoor.Sx Go.Proofs.YtiiklnghnifmjaaGreatDoor.Cod Go.Proofs.YtiiklnghnifmjaaGreatDoor.Num
theorem rwrap_calls (w0 : World) {r : SReqD} {okr0 : Nat → Prop} {Ar0 : Option Addr} {cr0 : Nat} (hrr0 : Rd OpdE w0 okr0 Ar0 r.ops cr0) (hb : SReqB r) (hinr0 : ∀ k, okr0 k → k < w0.heap.size) : Calls Tryz.prog 24 #[.agg #[.string (strOfNums r.client), .int .i64 r.num, .slice Ar0 r.ops.length cr0]] w0 fun e w' => ∃ (A : Option Addr) (c : Nat) (okn : Nat → Prop), e = .returned (.slice A (wrapL r).length c) ∧ Mods (fun _ => False) w0 w' ∧ Rd OpdE w' okn A (wrapL r) c ∧ ∀ k, okn k → k < w'.heap.size ∧ (okr0 k ∨ w0.heap.size ≤ k) := by
  refine cow Tryz.func24 rfl Tryz.ntmps24 (Nat.le_of_ble_eq_true rfl) fun a F => ?_
  have H := Hp.nil (fun _ => False) w0
  have H := H.readable 900 hrr0 hinr0 (fun j Y hY k hk hk2 => by simp [Sx.get] at hY)
  have hler0 := hrr0.le; unfold maxLen at hler0
  refine sr fun _ hK1 => ?_
  refine lp rfl ?_
  refine w_box 1 F H rfl (F.t 0 rfl) ?_
  clear F H; intro a w b1 F H
  refine la F rfl (x_assign rfl) fun a F => ?_
  refine wn (hK1 _ _ ?_)
  refine sr fun _ hK2 => ?_
  refine la F rfl (x_loadn ty43 (F.t 1 rfl) rfl (blk_whole (H.at 1 rfl))) fun a F => ?_
  refine lp rfl ?_
  refine w_call F (x_enter Tryz.func26 (by kernel_rfl) rfl (by simp only [bM, F.t 6 rfl] <;> rfl)) (r22right_calls (r := r) _ ((H.rd 900 rfl)) hb) rfl rfl ?_
  rintro _ w ⟨rfl, hm_⟩; refine ⟨_, rfl, ?_⟩; clear F; intro a F; have H := H.same hm_
  refine la F rfl (x_assign (F.t 7 rfl)) fun a F => ?_
  refine wn (hK2 _ _ ?_)
  refine wp_seq_k fun _ hK3 => ?_
  refine sr fun _ hK4 => ?_
  refine la F rfl (x_move (F.t 3 rfl)) fun a F => ?_
  refine la F rfl (x_not (F.t 8 rfl)) fun a F => ?_
  refine wn (hK4 _ _ ?_)
  refine wp_cond_split (F.t 9 rfl) (fun hc9 => ?_) (fun hc9 => ?_)
  · have hk9_1 := hc9; try simp only [bL] at hc9
    have hz : rightQ r = false := by simpa using hc9
    refine sr fun _ hK5 => ?_
    refine la F rfl (x_assign rfl) fun a F => ?_
    refine wn (hK5 _ _ ?_)
    refine wp_ret ?_
    try simp only [Exit.then, Exit.inBlock]
    exact fin_ret F (res1 F rfl rfl) ⟨none, 0, (fun _ => False), by rw [wrapL_no hz] <;> rfl, H.mods, by rw [wrapL_no hz]; exact Rd.nil _ _ _, fun k h => h.elim⟩
  · have hk9_2 := hc9; try simp only [bL] at hc9
    have hr : rightQ r = true := by simpa using hc9
    refine wp_skip ?_
    refine hK3 _ _ ?_
    refine sr fun _ hK6 => ?_
    refine la F rfl (x_faddr Tryz.underlying43 rfl ty9 (by decide) (F.t 1 rfl) rfl) fun a F => ?_
    refine la F rfl (x_load1 ty9 (F.t 10 rfl) (blk_cell (H.at 1 rfl) 0 rfl)) fun a F => ?_
    refine la F rfl (x_adds (xs := ([64] : List Int)) (ys := r.client) (show _ = Value.string (strOfNums ([64] : List Int)) by kernel_rfl) (F.t 11 rfl) (by have := (rightQ_parts hr); simp only [List.length_cons, List.length_nil]; omega)) fun a F => ?_
    refine la F rfl (x_assign (F.t 12 rfl)) fun a F => ?_
    refine wn (hK6 _ _ ?_)
    refine sr fun _ hK7 => ?_
    refine la F rfl (x_move (F.t 4 rfl)) fun a F => ?_
    refine la F rfl (x_buildS (cells := #[.int .i64 1, .string (strOfNums (([64] : List Int) ++ r.client)), .int .i64 0, .string (strOfNums []), .string (strOfNums []), .int .i64 0, .string (strOfNums []), .int .i64 0, .int .u64 0, .int .u64 0, .slice none 0 0]) (places := #[(0, 1), (1, 1), (2, 4), (6, 5)]) Tryz.underlying93 ty93 (by kernel_rfl) (by simp only [bM, F.t 13 rfl] <;> rfl) rfl) fun a F => ?_
    refine lp rfl ?_
    refine w_litE 15 OpdE ([markO r]) #[.int .i64 1, .string (strOfNums (([64] : List Int) ++ r.client)), .int .i64 0, .string (strOfNums []), .string (strOfNums []), .int .i64 0, .string (strOfNums []), .int .i64 0, .int .u64 0, .int .u64 0, .slice none 0 0] (fun _ => False) F H rfl Tryz.underlying37 ty93 (by simp only [bM, F.t 14 rfl] <;> rfl) rfl (by decide) (by decide) (by kernel_rfl) (Elems.single (opd_mk (markO r) (Rd.nil StE _ (fun _ => False)))) (fun kb hk => hk.elim) ?_
    clear F H; intro a w b15 F H
    refine la F rfl (x_faddr Tryz.underlying43 rfl ty37 (by decide) (F.t 1 rfl) rfl) fun a F => ?_
    refine la F rfl (x_load1 ty37 (F.t 16 rfl) (blk_cell (H.at 1 rfl) 2 rfl)) fun a F => ?_
    refine lp rfl ?_
    refine w_append 15 900 (xs := ([markO r])) (ys := r.ops) F H rfl Tryz.underlying37 ty93 rfl rfl rfl rfl ((H.rd 900 rfl)) oI (F.t 15 rfl) (F.t 17 rfl) (by have := (rightQ_parts hr); simp only [List.length_append, List.length_nil, List.length_cons] at *; omega) (by have := (rightQ_parts hr); simp only [List.length_append, List.length_nil, List.length_cons, maxLen] at *; omega) (fun kb => (fun _ => False) kb ∨ okr0 kb) (fun w' v' h => h) (by rintro k_ (hk_ | hk_); exact .inl hk_; exact .inr hk_) ?_
    clear F H; intro a w v18 F H
    obtain ⟨A18, c18, rfl⟩ := (H.row 15 rfl).form
    refine la F rfl (x_assign (F.t 18 rfl)) fun a F => ?_
    refine wn (hK7 _ _ ?_)
    refine sr fun _ hK8 => ?_
    refine la F rfl (x_move (F.t 5 rfl)) fun a F => ?_
    refine la F rfl (x_move (F.t 4 rfl)) fun a F => ?_
    refine la F rfl (x_faddr Tryz.underlying43 rfl ty3 (by decide) (F.t 1 rfl) rfl) fun a F => ?_
    refine la F rfl (x_load1 ty3 (F.t 21 rfl) (blk_cell (H.at 1 rfl) 1 rfl)) fun a F => ?_
    refine lp rfl ?_
    refine w_call F (x_enter Tryz.func61 (by kernel_rfl) rfl (by simp only [bM, F.t 22 rfl] <;> rfl)) (text_calls _ hb.num) rfl rfl ?_
    rintro _ w ⟨rfl, hm_⟩; refine ⟨_, rfl, ?_⟩; clear F; intro a F; have H := H.same hm_
    refine la F rfl (x_buildS (cells := #[.int .i64 1, .string (strOfNums (([64] : List Int) ++ r.client)), .string (strOfNums (itoaI r.num)), .int .i64 0]) (places := #[(0, 1), (1, 1), (2, 1), (3, 1)]) Tryz.underlying91 ty91 (by kernel_rfl) (by simp only [bM, F.t 20 rfl, F.t 23 rfl] <;> rfl) rfl) fun a F => ?_
    refine la F rfl (x_buildS (cells := #[.int .i64 2, .string (strOfNums []), .int .i64 1, .string (strOfNums (([64] : List Int) ++ r.client)), .string (strOfNums (itoaI r.num)), .int .i64 0, .string (strOfNums []), .int .i64 0, .int .u64 0, .int .u64 0, .slice none 0 0]) (places := #[(0, 1), (1, 1), (2, 4), (6, 5)]) Tryz.underlying93 ty93 (by kernel_rfl) (by simp only [bM, F.t 24 rfl] <;> rfl) (by first | (simp [Instr.fill, Value.cells]; done) | rfl)) fun a F => ?_
    refine lp rfl ?_
    refine w_lit1 26 OpdE (putO r) #[.int .i64 2, .string (strOfNums []), .int .i64 1, .string (strOfNums (([64] : List Int) ++ r.client)), .string (strOfNums (itoaI r.num)), .int .i64 0, .string (strOfNums []), .int .i64 0, .int .u64 0, .int .u64 0, .slice none 0 0] (fun _ => False) F H rfl Tryz.underlying37 ty93 (by simp only [bM, F.t 25 rfl] <;> rfl) (by decide) (by kernel_rfl) (opd_mk (putO r) (Rd.nil StE _ (fun _ => False))) (fun kb hk => hk.elim) ?_
    clear F H; intro a w b26 F hb26_ H
    refine lp rfl ?_
    refine w_append 15 26 (xs := (([markO r]) ++ r.ops)) (ys := ([putO r])) F H rfl Tryz.underlying37 ty93 rfl rfl rfl rfl ((H.rd 26 rfl)) oI (F.t 19 rfl) (F.t 26 rfl) (by have := (rightQ_parts hr); simp only [List.length_append, List.length_nil, List.length_cons] at *; omega) (by have := (rightQ_parts hr); simp only [List.length_append, List.length_nil, List.length_cons, maxLen] at *; omega) (fun kb => (fun kb => (fun _ => False) kb ∨ okr0 kb) kb ∨ (fun kb => (fun _ => False) kb ∨ kb = b26) kb) (fun w' v' h => h) (by rintro k_ (hk_ | hk_); exact .inl hk_; exact .inr hk_) ?_
    clear F H; intro a w v27 F H
    obtain ⟨A27, c27, rfl⟩ := (H.row 15 rfl).form
    refine la F rfl (x_assign (F.t 27 rfl)) fun a F => ?_
    have hfr15 : ∀ kb, (Value.slice A27 ((([markO r]) ++ r.ops) ++ [putO r]).length c27).ownBlock = some kb → w0.heap.size ≤ kb := fun kb h => (H.mine 15 _ rfl kb h).resolve_left (fun h => h)
    have H := H.freeze 15 rfl (fun kb => (fun kb => (fun kb => (fun _ => False) kb ∨ okr0 kb) kb ∨ (fun kb => (fun _ => False) kb ∨ kb = b26) kb) kb ∨ (Value.slice A27 ((([markO r]) ++ r.ops) ++ [putO r]).length c27).ownBlock = some kb) (fun kb => Iff.rfl)
    refine wn (hK8 _ _ ?_)
    refine wp_ret ?_
    try simp only [Exit.then, Exit.inBlock]
    have hwl : ((([markO r]) ++ r.ops) ++ [putO r]) = wrapL r := wrapL_yes hr
    rw [hwl] at H
    refine fin_ret F (res1 F rfl rfl) ⟨A27, c27, _, by rw [← hwl] <;> rfl, H.mods, H.rd 15 rfl, fun k h => ⟨H.inb 15 _ rfl k (.inr h), ?_⟩⟩
    rcases h with ((h | h) | h | rfl) | h
    · exact h.elim
    · exact .inl h
    · exact h.elim
    · exact .inr (hb26_.resolve_left id)
    · exact .inr (hfr15 k (by rw [hwl]; exact h))
end Go.Proofs.YtiiklnghnifmjaaGreatDoor.Act
