/- The laws of the bag, second part, walked. -/
import Derived.Test.YtfocpadeflpabaaDoorBagLZo
import Derived.Test.YtfocpadeflpabaaDoorBagEZo
set_option linter.unusedVariables false
set_option linter.unusedSimpArgs false
namespace Go.Proofs.YtfocpadeflpabaaDoor.Act
open Go.RowKit Go.Proofs.YtfocpadeflpabaaDoor.Sx Go.Proofs.YtfocpadeflpabaaDoor.Cod Go.Proofs.YtfocpadeflpabaaDoor.Num
set_option maxRecDepth 100000 in
set_option maxHeartbeats 1000000 in
theorem bOrder_calls (w0 : World) (hL : LibAt true w0) {ok : Nat → Prop} {A : Option Addr} {xs : List MessageD} {c : Nat} (hr : Rd MsgE w0 ok A xs c) (hxb : ∀ m ∈ xs, MessageB m) (n : Int) (fr : Bool) : Calls Tryd.prog 3 #[.slice A xs.length c, .int .i64 n, .bool fr] w0 fun e w' => e = .returned (.bool true) ∧ Mods (fun _ => False) w0 w' := by
 refine calls_of_wp Tryd.func3 rfl ?_
 have hF := Fr.enter #[.slice A xs.length c, .int .i64 n, .bool fr] 118 (slotsOf [.slice A xs.length c, .int .i64 n, .bool fr] 0) (Nat.le_of_ble_eq_true rfl) (fun i v h => by have h2 := (get_slotsOf _ 0 i v h).2; simpa only [List.getElem?_toArray, Nat.sub_zero] using h2)
 have hH := Hp.nil (fun _ => False) w0
 rw [Tryd.ntmps3]
 revert hF; generalize (⟨(#[.slice A xs.length c, .int .i64 n, .bool fr] : Array Value) ++ Array.replicate (118 - (#[.slice A xs.length c, .int .i64 n, .bool fr] : Array Value).size) undef, []⟩ : Act) = a; intro hF
 have hH := hH.arg 901 hr.all (fun _ h => ⟨h, fun h => h⟩)
 have hle901 := hr.le; unfold maxLen at hle901
 have hH := hH.libN 990 hL
 refine wp_seq_k fun khK1 hK1 => ?_
 refine wp_region_lit ?_
 refine l_at hF rfl rfl rfl (x_assign rfl) ?_; clear hF; intro a hF
 refine wpList_nil ?_
 refine hK1 _ _ ?_
 refine wp_seq_k fun khK2 hK2 => ?_
 refine wp_region_lit ?_
 refine wpList_plain rfl fun K hK => ?_
 refine w_call hF (x_enter Tryd.func7 (by kernel_rfl) rfl (by simp only [List.map_toArray, List.map_cons, List.map_nil] <;> rfl)) (bnew_calls _) rfl rfl ?_
 rintro _ w ⟨bb, X0, rfl, hX0, hxo_, hm_, hxn_, hxr_⟩; refine ⟨_, rfl, ?_⟩; clear hF; intro a hF; have hH := hH.newX 100 hm_ hxo_ hxn_ (fun k hk => (hxr_ k hk).elim)
 refine hK _ _ ?_; clear hK K
 refine l_at hF rfl rfl rfl (x_assign (hF.tmp 19 rfl)) ?_; clear hF; intro a hF
 refine wpList_nil ?_
 refine hK2 _ _ ?_
 refine wp_seq_k fun khK3 hK3 => ?_
 refine wp_seq_k fun khK4 hK4 => ?_
 refine wp_region_lit ?_
 refine l_at hF rfl rfl rfl (x_move (hF.tmp 7 rfl)) ?_; clear hF; intro a hF
 refine l_at hF rfl rfl rfl (x_ptrnil Tryd.underlying23 (hF.tmp 20 rfl) rfl) ?_; clear hF; intro a hF
 refine l_at hF rfl rfl rfl (x_move (hF.tmp 21 rfl)) ?_; clear hF; intro a hF
 refine l_atg hF ((wanted_of hF rfl rfl rfl rfl).trans rfl) rfl rfl (x_move (hF.tmp 0 rfl)) ?_; clear hF; intro a hF
 refine l_atg hF ((wanted_of hF rfl rfl rfl rfl).trans rfl) rfl rfl (x_len_slice Tryd.underlying22 (hF.tmp 23 rfl)) ?_; clear hF; intro a hF
 refine l_atg hF ((wanted_of hF rfl rfl rfl rfl).trans rfl) rfl rfl (x_gtr (hF.tmp 24 rfl) rfl) ?_; clear hF; intro a hF
 refine l_at hF rfl rfl rfl (x_pickF (hF.tmp 22 rfl) rfl (hF.tmp 25 rfl)) ?_; clear hF; intro a hF
 refine wpList_nil ?_
 refine hK4 _ _ ?_
 refine wp_cond_split (hF.tmp 26 rfl) (fun hc26 => ?_) (fun hc26 => ?_)
 ·have hk26_1 := hc26; try simp only [Bool.or_eq_true, Bool.and_eq_true, Bool.or_eq_false_iff, Bool.and_eq_false_iff, Bool.not_eq_true', Bool.not_eq_false', decide_eq_true_eq, decide_eq_false_iff_not, Bool.not_true, Bool.not_false] at hc26
  refine wp_seq_k fun khK5 hK5 => ?_
  refine wp_region_lit ?_
  refine l_at hF rfl rfl rfl (x_move (hF.tmp 7 rfl)) ?_; clear hF; intro a hF
  refine l_at hF rfl rfl rfl (x_ptrne Tryd.underlying23 (hF.tmp 27 rfl) rfl) ?_; clear hF; intro a hF
  refine l_at hF rfl rfl rfl (x_assign (hF.tmp 28 rfl)) ?_; clear hF; intro a hF
  refine wpList_nil ?_
  refine hK5 _ _ ?_
  refine wp_ret ?_
  try simp only [Exit.then, Exit.inBlock]
  exact fin_ret hF (res1 (v := .bool true) hF rfl rfl) ⟨rfl, hH.mods⟩
 ·have hk26_2 := hc26; try simp only [Bool.or_eq_true, Bool.and_eq_true, Bool.or_eq_false_iff, Bool.and_eq_false_iff, Bool.not_eq_true', Bool.not_eq_false', decide_eq_true_eq, decide_eq_false_iff_not, Bool.not_true, Bool.not_false] at hc26
  have hxl : (xs.length : Int) ≤ 100 := by omega
  refine wp_skip ?_
  refine hK3 _ _ ?_
  refine wp_seq_k fun khK6 hK6 => ?_
  refine wp_region_lit ?_
  refine l_at hF rfl rfl rfl (x_assign rfl) ?_; clear hF; intro a hF
  refine wpList_nil ?_
  refine hK6 _ _ ?_
  refine wp_seq_k fun khK7 hK7 => ?_
  refine wp_seq_k fun khK8 hK8 => ?_
  refine wp_region_lit ?_
  have hH := hH.row0 8 MsgE 30
  refine l_at hF rfl rfl rfl (x_assign rfl) ?_; clear hF; intro a hF
  refine wpList_nil ?_
  refine hK8 _ _ ?_
  refine wp_block ?_
  refine wp_loop_ghost (fun n_ a w => ∃ k : Nat, ∃ X : Asn, ∃ v8 : Value, ∃ okv : Nat → Prop, ∃ ss : List MessageD, n_ = xs.length - k ∧ (k ≤ xs.length) ∧ (BagA 51 58 bb (ordB ss Z8) X) ∧ (∀ m ∈ ss, rightM m = true ∧ MessageB m) ∧ (ss.length ≤ k) ∧ Fr 118 a [(0, .slice A xs.length c), (1, .int .i64 n), (2, .bool fr), (7, .pointer (some ⟨bb, 0, none⟩)), (8, v8), (9, .int .i64 (k : Int))] ∧ Hp (fun _ => False) w0 w [(901, .rd_ MsgE A xs c (fun k => k < w0.heap.size)), (990, .lib true), (100, X), (8, .row MsgE 30 v8 ss okv)]) (xs.length) ?_ ?_
  ·exact ⟨0, X0, .slice none 0 0, (fun _ => False), [], rfl, by omega, hX0, (fun m hm => by cases hm), by simp, ((((((hF.bare.add hF 9 rfl).add hF 8 rfl).add hF 7 rfl).add hF 2 rfl).add hF 1 rfl).add hF 0 rfl), hH.sub _ (sub_cons (sub_cons (sub_cons (sub_cons (sub_nil _) 8 rfl) 100 rfl) 990 rfl) 901 rfl)⟩
  ·rintro _ a w ⟨k, X, v8, okv, ss, rfl, hq0_0, hq0_1, hq0_2, hq0_3, hF, hH⟩
   refine wp_seq_k fun khK9 hK9 => ?_
   refine wp_seq_k fun khK10 hK10 => ?_
   refine wp_region_lit ?_
   refine l_at hF rfl rfl rfl (x_move (hF.tmp 9 rfl)) ?_; clear hF; intro a hF
   refine l_at hF rfl rfl rfl (x_move (hF.tmp 0 rfl)) ?_; clear hF; intro a hF
   refine l_at hF rfl rfl rfl (x_len_slice Tryd.underlying22 (hF.tmp 30 rfl)) ?_; clear hF; intro a hF
   refine l_at hF rfl rfl rfl (x_lss (hF.tmp 29 rfl) (hF.tmp 31 rfl)) ?_; clear hF; intro a hF
   refine wpList_nil ?_
   refine hK10 _ _ ?_
   refine wp_cond_split (hF.tmp 32 rfl) (fun hc32 => ?_) (fun hc32 => ?_)
   ·have hk32_3 := hc32; try simp only [Bool.or_eq_true, Bool.and_eq_true, Bool.or_eq_false_iff, Bool.and_eq_false_iff, Bool.not_eq_true', Bool.not_eq_false', decide_eq_true_eq, decide_eq_false_iff_not, Bool.not_true, Bool.not_false] at hc32
    refine wp_skip ?_
    refine hK9 _ _ ?_
    refine wp_seq_k fun khK11 hK11 => ?_
    refine wp_block ?_
    refine wp_seq_k fun khK12 hK12 => ?_
    refine wp_region_lit ?_
    refine l_at hF rfl rfl rfl (x_move (hF.tmp 0 rfl)) ?_; clear hF; intro a hF
    refine l_at hF rfl rfl rfl (x_move (hF.tmp 9 rfl)) ?_; clear hF; intro a hF
    refine l_at hF rfl rfl rfl (x_iaddr_A Tryd.underlying22 ty30 ((hH.rd 901 rfl)) (hF.tmp 35 rfl) (hF.tmp 36 rfl) (by omega) (by omega) _) ?_; clear hF; intro a hF
    obtain ⟨fA1_0, fc1_0, fA1_1, fc1_1, hfr1_0, hfr1_1, hf1_0, hf1_1, hf1_2, hf1_3, hf1_4, hf1_5, hfw1⟩ := rd_msg ((hH.rd 901 rfl)) (gmsg_some (xs := xs) (i := (k : Int)) (by omega) (by omega))
    have hH := hH.subrd 901 rfl 1004 hfr1_0 (fun _ h => h)
    have hH := hH.subrd 901 rfl 1005 hfr1_1 (fun _ h => h)
    have hH := hH.subcels 901 rfl 1499 hfw1 (Rd.inok ((hH.rd 901 rfl)) (by omega) _)
    have hH := hH.subcel 901 rfl 1500 hf1_0 (Rd.inok ((hH.rd 901 rfl)) (by omega) _)
    have hH := hH.subcel 901 rfl 1501 hf1_1 (Rd.inok ((hH.rd 901 rfl)) (by omega) _)
    have hH := hH.subcel 901 rfl 1502 hf1_2 (Rd.inok ((hH.rd 901 rfl)) (by omega) _)
    have hH := hH.subcel 901 rfl 1503 hf1_3 (Rd.inok ((hH.rd 901 rfl)) (by omega) _)
    have hH := hH.subcel 901 rfl 1504 hf1_4 (Rd.inok ((hH.rd 901 rfl)) (by omega) _)
    have hH := hH.subcel 901 rfl 1505 hf1_5 (Rd.inok ((hH.rd 901 rfl)) (by omega) _)
    have hbm := hxb _ (gmsg_mem (xs := xs) (j := k) (by omega))
    refine l_at hF rfl rfl rfl (x_loadn ty30 (hF.tmp 37 rfl) rfl (hH.holds 1499 _ rfl)) ?_; clear hF; intro a hF
    refine wpList_plain rfl fun K hK => ?_
    refine w_call hF (x_enter Tryd.func8 (by kernel_rfl) rfl (by simp only [List.map_toArray, List.map_cons, List.map_nil, hF.tmp 38 rfl] <;> rfl)) (fitsM_calls _ ((hH.rd 1004 rfl)) ((hH.rd 1005 rfl))) rfl rfl ?_
    rintro _ w ⟨bf_, rfl, hm_⟩; refine ⟨_, rfl, ?_⟩; clear hF; intro a hF; have hH := hH.same hm_
    refine hK _ _ ?_; clear hK K
    refine l_at hF rfl rfl rfl (x_assign (hF.tmp 39 rfl)) ?_; clear hF; intro a hF
    refine wpList_nil ?_
    refine hK12 _ _ ?_
    refine wp_seq_k fun khK13 hK13 => ?_
    refine wp_region_lit ?_
    refine l_at hF rfl rfl rfl (x_move (hF.tmp 10 rfl)) ?_; clear hF; intro a hF
    refine l_at hF rfl rfl rfl (x_move (hF.tmp 40 rfl)) ?_; clear hF; intro a hF
    refine split_bool hF 41 rfl (fun hb41 => ?_) (fun hb41 => ?_)
    ·have hc41 := hb41; try simp only [Bool.or_eq_true, Bool.and_eq_true, Bool.or_eq_false_iff, Bool.and_eq_false_iff, Bool.not_eq_true', Bool.not_eq_false', decide_eq_true_eq, decide_eq_false_iff_not, Bool.not_true, Bool.not_false] at hc41
     refine l_atg hF ((wanted_of hF rfl rfl rfl rfl).trans (by rw [hb41]; rfl)) rfl rfl (x_move (hF.tmp 7 rfl)) ?_; clear hF; intro a hF
     refine l_atg hF ((wanted_of hF rfl rfl rfl rfl).trans (by rw [hb41]; rfl)) rfl rfl (x_move (hF.tmp 0 rfl)) ?_; clear hF; intro a hF
     refine l_atg hF ((wanted_of hF rfl rfl rfl rfl).trans (by rw [hb41]; rfl)) rfl rfl (x_move (hF.tmp 9 rfl)) ?_; clear hF; intro a hF
     refine l_atg hF ((wanted_of hF rfl rfl rfl rfl).trans (by rw [hb41]; rfl)) rfl rfl (x_iaddr_A Tryd.underlying22 ty30 ((hH.rd 901 rfl)) (hF.tmp 43 rfl) (hF.tmp 44 rfl) (by omega) (by omega) _) ?_; clear hF; intro a hF
     refine l_atg hF ((wanted_of hF rfl rfl rfl rfl).trans (by rw [hb41]; rfl)) rfl rfl (x_loadn ty30 (hF.tmp 45 rfl) rfl (hH.holds 1499 _ rfl)) ?_; clear hF; intro a hF
     refine wpList_on ((wanted_of hF rfl rfl rfl rfl).trans (by rw [hb41]; rfl)) fun K hK => ?_
     refine w_call hF (x_enter Tryd.func9 (by kernel_rfl) rfl (by simp only [List.map_toArray, List.map_cons, List.map_nil, hF.tmp 42 rfl, hF.tmp 46 rfl] <;> rfl)) (send_calls (m := (gmsg xs (k : Int))) _ (hH.holds 990 _ rfl) hq0_1 (hH.okX 100 rfl) (ord_ok hq0_2 (by omega) rfl) (fun k h hx => hH.sep 100 990 _ _ (by decide) rfl rfl k hx (.inr h)) ((hH.rd 1004 rfl)) ((hH.rd 1005 rfl)) hbm (fun k h => hH.inb 1004 _ rfl k (.inr h)) (fun k h => hH.inb 1005 _ rfl k (.inr h)) (fun k h hx => hH.sep 100 1004 _ _ (by decide) rfl rfl k hx (.inr h)) (fun k h hx => hH.sep 100 1005 _ _ (by decide) rfl rfl k hx (.inr h))) rfl rfl ?_
     rintro _ w ⟨X1, rfl, hX1, hg_⟩; refine ⟨_, rfl, ?_⟩; clear hF; intro a hF; have hH := hH.grew 100 rfl hg_ (fun k hk => hk.elim)
     refine hK _ _ ?_; clear hK K
     refine l_atg hF ((wanted_of hF rfl rfl rfl rfl).trans (by rw [hb41]; rfl)) rfl rfl (x_eql (hF.tmp 47 rfl) rfl) ?_; clear hF; intro a hF
     refine l_at hF rfl rfl rfl (x_pickT (hF.tmp 41 rfl) hb41 (hF.tmp 48 rfl)) ?_; clear hF; intro a hF
     refine wpList_nil ?_
     refine hK13 _ _ ?_
     refine wp_cond_split (hF.tmp 49 rfl) (fun hc49 => ?_) (fun hc49 => ?_)
     ·have hk49_4 := hc49; try simp only [Bool.or_eq_true, Bool.and_eq_true, Bool.or_eq_false_iff, Bool.and_eq_false_iff, Bool.not_eq_true', Bool.not_eq_false', decide_eq_true_eq, decide_eq_false_iff_not, Bool.not_true, Bool.not_false] at hc49
      have hsr := (ord_send (m := (gmsg xs (k : Int))) (by omega)).1 hc49
      have hX1 : BagA 51 58 bb (ordB (ss ++ [(gmsg xs (k : Int))]) Z8) X1 := by have h_ := hX1; rw [hsr.2] at h_; exact h_
      refine wp_region_lit ?_
      refine l_at hF rfl rfl rfl (x_move (hF.tmp 8 rfl)) ?_; clear hF; intro a hF
      refine l_at hF rfl rfl rfl (x_move (hF.tmp 0 rfl)) ?_; clear hF; intro a hF
      refine l_at hF rfl rfl rfl (x_move (hF.tmp 9 rfl)) ?_; clear hF; intro a hF
      refine l_at hF rfl rfl rfl (x_iaddr_A Tryd.underlying22 ty30 ((hH.rd 901 rfl)) (hF.tmp 51 rfl) (hF.tmp 52 rfl) (by omega) (by omega) _) ?_; clear hF; intro a hF
      refine l_at hF rfl rfl rfl (x_loadn ty30 (hF.tmp 53 rfl) rfl (hH.holds 1499 _ rfl)) ?_; clear hF; intro a hF
      refine wpList_plain rfl fun K hK => ?_
      refine w_lit1 55 MsgE (gmsg xs (k : Int)) #[.int .i64 (gmsg xs (k : Int)).kind, .int .i64 (gmsg xs (k : Int)).src, .int .i64 (gmsg xs (k : Int)).dst, .int .i64 (gmsg xs (k : Int)).tx, .slice fA1_0 (gmsg xs (k : Int)).nodes.length fc1_0, .slice fA1_1 (gmsg xs (k : Int)).changes.length fc1_1] (fun k => k < w0.heap.size) hF hH rfl Tryd.underlying22 ty30 (by simp only [List.map_toArray, List.map_cons, List.map_nil, hF.tmp 54 rfl] <;> rfl) (by decide) (by kernel_rfl) (msg_mk (gmsg xs (k : Int)) (hH.rd 1004 rfl) (hH.rd 1005 rfl)) (fun kb hk => ⟨1004, _, rfl, hk⟩) ?_
      clear hF hH; intro a w b55 hF hb55_ hH
      refine hK _ _ ?_; clear hK K
      refine wpList_plain rfl fun K hK => ?_
      refine w_append 8 55 (xs := ss) (ys := ([(gmsg xs (k : Int))])) hF hH rfl Tryd.underlying22 ty30 rfl rfl rfl rfl ((hH.rd 55 rfl)) (by intro k_ hk_; exact .inr hk_) (hF.tmp 50 rfl) (hF.tmp 55 rfl) (by simp only [List.length_append, List.length_nil, List.length_cons, List.length_map, List.length_take] at *; omega) (by simp only [List.length_append, List.length_nil, List.length_cons, List.length_map, List.length_take, maxLen] at *; omega) (fun kb => okv kb ∨ (fun kb => (fun k => k < w0.heap.size) kb ∨ kb = b55) kb) (fun w' v' h => h) (by rintro k_ (hk_ | hk_); exact .inl hk_; exact .inr hk_) ?_
      clear hF hH; intro a w v56 hF hH
      refine hK _ _ ?_; clear hK K
      refine l_at hF rfl rfl rfl (x_assign (hF.tmp 56 rfl)) ?_; clear hF; intro a hF
      refine wpList_nil ?_
      refine hK11 _ _ ?_
      refine wp_region_lit ?_
      refine l_at hF rfl rfl rfl (x_move (hF.tmp 9 rfl)) ?_; clear hF; intro a hF
      refine l_at hF rfl rfl rfl (x_add (hF.tmp 33 rfl) rfl (w64 (by omega) (by omega))) ?_; clear hF; intro a hF
      refine l_at hF rfl rfl rfl (x_assign (hF.tmp 34 rfl)) ?_; clear hF; intro a hF
      refine wpList_nil ?_
      exact ⟨_, by omega, ⟨k + 1, X1, v56, (fun kb => okv kb ∨ (fun kb => (fun k => k < w0.heap.size) kb ∨ kb = b55) kb), (ss ++ [(gmsg xs (k : Int))]), rfl, by omega, hX1, (fun m hm => by rcases List.mem_append.1 hm with hm | hm; exact hq0_2 m hm; rw [List.mem_singleton.1 hm]; exact ⟨hsr.1, hbm⟩), (by rw [List.length_append, List.length_singleton]; omega), ((((((hF.bare.add hF 9 rfl).add hF 8 rfl).add hF 7 rfl).add hF 2 rfl).add hF 1 rfl).add hF 0 rfl), hH.sub _ (sub_cons (sub_cons (sub_cons (sub_cons (sub_nil _) 8 rfl) 100 rfl) 990 rfl) 901 rfl)⟩⟩
     ·have hk49_5 := hc49; try simp only [Bool.or_eq_true, Bool.and_eq_true, Bool.or_eq_false_iff, Bool.and_eq_false_iff, Bool.not_eq_true', Bool.not_eq_false', decide_eq_true_eq, decide_eq_false_iff_not, Bool.not_true, Bool.not_false] at hc49
      have hsn := (ord_send (ss := ss) (m := (gmsg xs (k : Int))) (by omega)).2 (by first | exact hc49 | exact hc41)
      have hX1 : BagA 51 58 bb (ordB ss Z8) X1 := by have h_ := hX1; rw [hsn] at h_; exact h_
      refine wp_skip ?_
      refine hK11 _ _ ?_
      refine wp_region_lit ?_
      refine l_at hF rfl rfl rfl (x_move (hF.tmp 9 rfl)) ?_; clear hF; intro a hF
      refine l_at hF rfl rfl rfl (x_add (hF.tmp 33 rfl) rfl (w64 (by omega) (by omega))) ?_; clear hF; intro a hF
      refine l_at hF rfl rfl rfl (x_assign (hF.tmp 34 rfl)) ?_; clear hF; intro a hF
      refine wpList_nil ?_
      exact ⟨_, by omega, ⟨k + 1, X1, v8, okv, ss, rfl, by omega, hX1, hq0_2, by omega, ((((((hF.bare.add hF 9 rfl).add hF 8 rfl).add hF 7 rfl).add hF 2 rfl).add hF 1 rfl).add hF 0 rfl), hH.sub _ (sub_cons (sub_cons (sub_cons (sub_cons (sub_nil _) 8 rfl) 100 rfl) 990 rfl) 901 rfl)⟩⟩
    ·have hc41 := hb41; try simp only [Bool.or_eq_true, Bool.and_eq_true, Bool.or_eq_false_iff, Bool.and_eq_false_iff, Bool.not_eq_true', Bool.not_eq_false', decide_eq_true_eq, decide_eq_false_iff_not, Bool.not_true, Bool.not_false] at hc41
     refine l_offg hF ((wanted_of hF rfl rfl rfl rfl).trans (by rw [hb41]; rfl)) rfl rfl ?_; clear hF; intro a hF
     refine l_offg hF ((wanted_of hF rfl rfl rfl rfl).trans (by rw [hb41]; rfl)) rfl rfl ?_; clear hF; intro a hF
     refine l_offg hF ((wanted_of hF rfl rfl rfl rfl).trans (by rw [hb41]; rfl)) rfl rfl ?_; clear hF; intro a hF
     refine l_offg hF ((wanted_of hF rfl rfl rfl rfl).trans (by rw [hb41]; rfl)) rfl rfl ?_; clear hF; intro a hF
     refine l_offg hF ((wanted_of hF rfl rfl rfl rfl).trans (by rw [hb41]; rfl)) rfl rfl ?_; clear hF; intro a hF
     refine l_offg hF ((wanted_of hF rfl rfl rfl rfl).trans (by rw [hb41]; rfl)) rfl rfl ?_; clear hF; intro a hF
     refine l_offg hF ((wanted_of hF rfl rfl rfl rfl).trans (by rw [hb41]; rfl)) rfl rfl ?_; clear hF; intro a hF
     refine l_at hF rfl rfl rfl (x_pickF (hF.tmp 41 rfl) hb41 rfl) ?_; clear hF; intro a hF
     refine wpList_nil ?_
     refine hK13 _ _ ?_
     refine wp_cond_false (hF.tmp 49 rfl) ?_
     refine wp_skip ?_
     refine hK11 _ _ ?_
     refine wp_region_lit ?_
     refine l_at hF rfl rfl rfl (x_move (hF.tmp 9 rfl)) ?_; clear hF; intro a hF
     refine l_at hF rfl rfl rfl (x_add (hF.tmp 33 rfl) rfl (w64 (by omega) (by omega))) ?_; clear hF; intro a hF
     refine l_at hF rfl rfl rfl (x_assign (hF.tmp 34 rfl)) ?_; clear hF; intro a hF
     refine wpList_nil ?_
     exact ⟨_, by omega, ⟨k + 1, X, v8, okv, ss, rfl, by omega, hq0_1, hq0_2, by omega, ((((((hF.bare.add hF 9 rfl).add hF 8 rfl).add hF 7 rfl).add hF 2 rfl).add hF 1 rfl).add hF 0 rfl), hH.sub _ (sub_cons (sub_cons (sub_cons (sub_cons (sub_nil _) 8 rfl) 100 rfl) 990 rfl) 901 rfl)⟩⟩
   ·have hk32_6 := hc32; try simp only [Bool.or_eq_true, Bool.and_eq_true, Bool.or_eq_false_iff, Bool.and_eq_false_iff, Bool.not_eq_true', Bool.not_eq_false', decide_eq_true_eq, decide_eq_false_iff_not, Bool.not_true, Bool.not_false] at hc32
    refine wp_exit ?_
    refine hK7 _ _ ?_
    refine wp_seq_k fun khK14 hK14 => ?_
    refine wp_region_lit ?_
    obtain ⟨A8, c8, rfl⟩ := (hH.row 8 rfl).form
    have hH := hH.freeze 8 rfl (fun kb => okv kb ∨ (Value.slice A8 ss.length c8).ownBlock = some kb) (fun kb => Iff.rfl)
    refine l_at hF rfl rfl rfl (x_move (hF.tmp 7 rfl)) ?_; clear hF; intro a hF
    refine l_at hF rfl rfl rfl (x_move (hF.tmp 1 rfl)) ?_; clear hF; intro a hF
    refine wpList_plain rfl fun K hK => ?_
    refine w_call hF (x_enter Tryd.func10 (by kernel_rfl) rfl (by simp only [List.map_toArray, List.map_cons, List.map_nil, hF.tmp 57 rfl, hF.tmp 58 rfl] <;> rfl)) (restart_calls _  hq0_1 (hH.okX 100 rfl) (ord_ok hq0_2 (by omega) rfl)  n) rfl rfl ?_
    rintro _ w ⟨X1, rfl, hX1, hg_⟩; refine ⟨_, rfl, ?_⟩; clear hF; intro a hF; have hH := hH.grew 100 rfl hg_ (fun k hk => hk.elim)
    refine hK _ _ ?_; clear hK K
    have hX1 : BagA 51 58 bb (ordB ss (eN n)) X1 := by have h_ := hX1; rw [ord_rest] at h_; exact h_
    refine l_at hF rfl rfl rfl (x_eql (hF.tmp 59 rfl) rfl) ?_; clear hF; intro a hF
    refine l_at hF rfl rfl rfl (x_assign (hF.tmp 60 rfl)) ?_; clear hF; intro a hF
    refine wpList_nil ?_
    refine hK14 _ _ ?_
    refine wp_seq_k fun khK15 hK15 => ?_
    refine wp_seq_k fun khK16 hK16 => ?_
    refine wp_region_lit ?_
    refine l_at hF rfl rfl rfl (x_assign rfl) ?_; clear hF; intro a hF
    refine wpList_nil ?_
    refine hK16 _ _ ?_
    refine wp_block ?_
    refine wp_loop_ghost (fun n_ a w => ∃ j : Nat, ∃ X : Asn, n_ = ss.length - j ∧ (j ≤ ss.length) ∧ (BagA 51 58 bb (ordB (curB fr ss j) (eN n)) X) ∧ Fr 118 a [(1, .int .i64 n), (2, .bool fr), (7, .pointer (some ⟨bb, 0, none⟩)), (8, .slice A8 ss.length c8), (11, .bool (decide ((rstE n) = 0))), (12, .int .i64 (j : Int))] ∧ Hp (fun _ => False) w0 w [(901, .rd_ MsgE A xs c (fun k => k < w0.heap.size)), (990, .lib true), (100, X), (8, .rd_ MsgE A8 ss c8 (fun kb => okv kb ∨ (Value.slice A8 ss.length c8).ownBlock = some kb))]) (ss.length) ?_ ?_
    ·exact ⟨0, X1, rfl, by omega, (by rw [cur_0]; exact hX1), ((((((hF.bare.add hF 12 rfl).add hF 11 rfl).add hF 8 rfl).add hF 7 rfl).add hF 2 rfl).add hF 1 rfl), hH.sub _ (sub_cons (sub_cons (sub_cons (sub_cons (sub_nil _) 8 rfl) 100 rfl) 990 rfl) 901 rfl)⟩
    ·rintro _ a w ⟨j, X, rfl, hq2_0, hq2_1, hF, hH⟩
     refine wp_seq_k fun khK17 hK17 => ?_
     refine wp_seq_k fun khK18 hK18 => ?_
     refine wp_region_lit ?_
     refine l_at hF rfl rfl rfl (x_move (hF.tmp 12 rfl)) ?_; clear hF; intro a hF
     refine l_at hF rfl rfl rfl (x_move (hF.tmp 8 rfl)) ?_; clear hF; intro a hF
     refine l_at hF rfl rfl rfl (x_len_slice Tryd.underlying22 (hF.tmp 62 rfl)) ?_; clear hF; intro a hF
     refine l_at hF rfl rfl rfl (x_lss (hF.tmp 61 rfl) (hF.tmp 63 rfl)) ?_; clear hF; intro a hF
     refine wpList_nil ?_
     refine hK18 _ _ ?_
     refine wp_cond_split (hF.tmp 64 rfl) (fun hc64 => ?_) (fun hc64 => ?_)
     ·have hk64_7 := hc64; try simp only [Bool.or_eq_true, Bool.and_eq_true, Bool.or_eq_false_iff, Bool.and_eq_false_iff, Bool.not_eq_true', Bool.not_eq_false', decide_eq_true_eq, decide_eq_false_iff_not, Bool.not_true, Bool.not_false] at hc64
      have hjl : (j : Int) < (ss.length : Int) := by omega
      refine wp_skip ?_
      refine hK17 _ _ ?_
      refine wp_seq_k fun khK19 hK19 => ?_
      refine wp_block ?_
      refine wp_seq_k fun khK20 hK20 => ?_
      refine wp_region_lit ?_
      refine l_at hF rfl rfl rfl (x_assign rfl) ?_; clear hF; intro a hF
      refine wpList_nil ?_
      refine hK20 _ _ ?_
      refine wp_seq_k fun khK21 hK21 => ?_
      refine wp_region_lit ?_
      refine l_at hF rfl rfl rfl (x_move (hF.tmp 8 rfl)) ?_; clear hF; intro a hF
      refine l_at hF rfl rfl rfl (x_move (hF.tmp 12 rfl)) ?_; clear hF; intro a hF
      refine l_at hF rfl rfl rfl (x_iaddr_A Tryd.underlying22 ty30 ((hH.rd 8 rfl)) (hF.tmp 67 rfl) (hF.tmp 68 rfl) (by omega) (by omega) _) ?_; clear hF; intro a hF
      obtain ⟨fA2_0, fc2_0, fA2_1, fc2_1, hfr2_0, hfr2_1, hf2_0, hf2_1, hf2_2, hf2_3, hf2_4, hf2_5, hfw2⟩ := rd_msg ((hH.rd 8 rfl)) (gmsg_some (xs := ss) (i := (j : Int)) (by omega) (by omega))
      have hH := hH.subrd 8 rfl 2004 hfr2_0 (fun _ h => h)
      have hH := hH.subrd 8 rfl 2005 hfr2_1 (fun _ h => h)
      have hH := hH.subcels 8 rfl 2499 hfw2 (Rd.inok ((hH.rd 8 rfl)) (by omega) _)
      have hH := hH.subcel 8 rfl 2500 hf2_0 (Rd.inok ((hH.rd 8 rfl)) (by omega) _)
      have hH := hH.subcel 8 rfl 2501 hf2_1 (Rd.inok ((hH.rd 8 rfl)) (by omega) _)
      have hH := hH.subcel 8 rfl 2502 hf2_2 (Rd.inok ((hH.rd 8 rfl)) (by omega) _)
      have hH := hH.subcel 8 rfl 2503 hf2_3 (Rd.inok ((hH.rd 8 rfl)) (by omega) _)
      have hH := hH.subcel 8 rfl 2504 hf2_4 (Rd.inok ((hH.rd 8 rfl)) (by omega) _)
      have hH := hH.subcel 8 rfl 2505 hf2_5 (Rd.inok ((hH.rd 8 rfl)) (by omega) _)
      have hmw := gmsg_mem (xs := ss) (j := j) (by omega)
      refine l_at hF rfl rfl rfl (x_loadn ty30 (hF.tmp 69 rfl) rfl (hH.holds 2499 _ rfl)) ?_; clear hF; intro a hF
      refine wpList_plain rfl fun K hK => ?_
      refine w_alloc 14 hF hH rfl ty30 ?_
      clear hF hH; intro a w b14 hF hH
      refine hK _ _ ?_; clear hK K
      refine wpList_plain rfl fun K hK => ?_
      refine w_storeA 14 hH ty30 rfl (hF.tmp 14 rfl) (hF.tmp 70 rfl) rfl (by simp [Value.cells, Value.oneCell']) rfl ?_
      clear hH; intro w hH
      refine hK _ _ ?_; clear hK K
      refine wpList_nil ?_
      refine hK21 _ _ ?_
      refine wp_seq_k fun khK22 hK22 => ?_
      refine wp_seq_k fun khK23 hK23 => ?_
      refine wp_region_lit ?_
      refine l_at hF rfl rfl rfl (x_move (hF.tmp 2 rfl)) ?_; clear hF; intro a hF
      refine l_at hF rfl rfl rfl (x_not (hF.tmp 71 rfl)) ?_; clear hF; intro a hF
      refine wpList_nil ?_
      refine hK23 _ _ ?_
      refine wp_cond_split (hF.tmp 72 rfl) (fun hc72 => ?_) (fun hc72 => ?_)
      ·have hk72_8 := hc72; try simp only [Bool.or_eq_true, Bool.and_eq_true, Bool.or_eq_false_iff, Bool.and_eq_false_iff, Bool.not_eq_true', Bool.not_eq_false', decide_eq_true_eq, decide_eq_false_iff_not, Bool.not_true, Bool.not_false] at hc72
       have hfr : fr = false := hc72
       have hq2_1 : BagA 51 58 bb (ordB (ss.take (ss.length - j)) (eN n)) X := by have h_ := hq2_1; rw [cur_f hfr] at h_; exact h_
       refine wp_seq_k fun khK24 hK24 => ?_
       refine wp_region_lit ?_
       refine l_at hF rfl rfl rfl (x_move (hF.tmp 7 rfl)) ?_; clear hF; intro a hF
       refine wpList_plain rfl fun K hK => ?_
       refine w_call hF (x_enter Tryd.func11 (by kernel_rfl) rfl (by simp only [List.map_toArray, List.map_cons, List.map_nil, hF.tmp 73 rfl] <;> rfl)) (blen_calls _ hq2_1 (hH.okX 100 rfl) (by rw [← cur_f hfr ss j]; exact (ord_ok_cur hq0_2 (by omega) (eN_len n)))) rfl rfl ?_
       rintro _ w ⟨rfl, hm_⟩; refine ⟨_, rfl, ?_⟩; clear hF; intro a hF; have hH := hH.same hm_
       refine hK _ _ ?_; clear hK K
       rw [ord_lenb ss (eN n) (Int.ofNat_le.1 (Int.le_of_lt hjl))] at hF
       refine l_at hF rfl rfl rfl (x_sub (hF.tmp 74 rfl) rfl (w64 (by omega) (by omega))) ?_; clear hF; intro a hF
       refine l_at hF rfl rfl rfl (x_assign (hF.tmp 75 rfl)) ?_; clear hF; intro a hF
       refine wpList_nil ?_
       refine hK24 _ _ ?_
       refine wp_region_lit ?_
       refine l_at hF rfl rfl rfl (x_move (hF.tmp 8 rfl)) ?_; clear hF; intro a hF
       refine l_at hF rfl rfl rfl (x_move (hF.tmp 8 rfl)) ?_; clear hF; intro a hF
       refine l_at hF rfl rfl rfl (x_len_slice Tryd.underlying22 (hF.tmp 77 rfl)) ?_; clear hF; intro a hF
       refine l_at hF rfl rfl rfl (x_sub (hF.tmp 78 rfl) rfl (w64 (by omega) (by omega))) ?_; clear hF; intro a hF
       refine l_at hF rfl rfl rfl (x_move (hF.tmp 12 rfl)) ?_; clear hF; intro a hF
       refine l_at hF rfl rfl rfl (x_sub (hF.tmp 79 rfl) (hF.tmp 80 rfl) (w64 (by omega) (by omega))) ?_; clear hF; intro a hF
       refine l_at hF rfl rfl rfl (x_iaddr_A Tryd.underlying22 ty30 ((hH.rd 8 rfl)) (hF.tmp 76 rfl) (hF.tmp 81 rfl) (by omega) (by omega) _) ?_; clear hF; intro a hF
       obtain ⟨fA3_0, fc3_0, fA3_1, fc3_1, hfr3_0, hfr3_1, hf3_0, hf3_1, hf3_2, hf3_3, hf3_4, hf3_5, hfw3⟩ := rd_msg ((hH.rd 8 rfl)) (gmsg_some (xs := ss) (i := (((ss.length : Int) - 1) - (j : Int))) (by omega) (by omega))
       have hH := hH.subrd 8 rfl 3004 hfr3_0 (fun _ h => h)
       have hH := hH.subrd 8 rfl 3005 hfr3_1 (fun _ h => h)
       have hH := hH.subcels 8 rfl 3499 hfw3 (Rd.inok ((hH.rd 8 rfl)) (by omega) _)
       have hH := hH.subcel 8 rfl 3500 hf3_0 (Rd.inok ((hH.rd 8 rfl)) (by omega) _)
       have hH := hH.subcel 8 rfl 3501 hf3_1 (Rd.inok ((hH.rd 8 rfl)) (by omega) _)
       have hH := hH.subcel 8 rfl 3502 hf3_2 (Rd.inok ((hH.rd 8 rfl)) (by omega) _)
       have hH := hH.subcel 8 rfl 3503 hf3_3 (Rd.inok ((hH.rd 8 rfl)) (by omega) _)
       have hH := hH.subcel 8 rfl 3504 hf3_4 (Rd.inok ((hH.rd 8 rfl)) (by omega) _)
       have hH := hH.subcel 8 rfl 3505 hf3_5 (Rd.inok ((hH.rd 8 rfl)) (by omega) _)
       have hmw := gmsg_mem2 (xs := ss) (i := (ss.length : Int) - 1 - (j : Int)) (by omega) (by omega)
       refine l_at hF rfl rfl rfl (x_loadn ty30 (hF.tmp 82 rfl) rfl (hH.holds 3499 _ rfl)) ?_; clear hF; intro a hF
       refine wpList_plain rfl fun K hK => ?_
       refine w_storeA 14 hH ty30 rfl (hF.tmp 14 rfl) (hF.tmp 83 rfl) rfl (by simp [Value.cells, Value.oneCell']) rfl ?_
       clear hH; intro w hH
       refine hK _ _ ?_; clear hK K
       refine wpList_nil ?_
       refine hK22 _ _ ?_
       refine wp_seq_k fun khK25 hK25 => ?_
       refine wp_region_lit ?_
       refine l_at hF rfl rfl rfl (x_move (hF.tmp 7 rfl)) ?_; clear hF; intro a hF
       refine l_at hF rfl rfl rfl (x_move (hF.tmp 13 rfl)) ?_; clear hF; intro a hF
       refine wpList_plain rfl fun K hK => ?_
       refine w_call hF (x_enter Tryd.func12 (by kernel_rfl) rfl (by simp only [List.map_toArray, List.map_cons, List.map_nil, hF.tmp 85 rfl, hF.tmp 86 rfl] <;> rfl)) (take_calls _ (hH.holds 990 _ rfl) hq2_1 (hH.okX 100 rfl) (by rw [← cur_f hfr ss j]; exact (ord_ok_cur hq0_2 (by omega) (eN_len n))) (fun k h hx => hH.sep 100 990 _ _ (by decide) rfl rfl k hx (.inr h)) (((ss.length : Int) - (j : Int)) - 1)) rfl rfl ?_
       rintro _ w ⟨X2, An70, cn70, Ac70, cc70, okm70, rfl, hX2, hg_, ⟨h1_, h2_⟩, hf_, hap_⟩; refine ⟨_, rfl, ?_⟩; clear hF; intro a hF; have hHo := hH; have hH := hHo.grew 100 rfl hg_ (fun k hk => hk.elim); have hH := hH.readNew (w := _) 100 70 (own_old hHo) (fun Y hY => by cases hY; exact hap_) h1_ hf_; have hH := hH.readNew 100 71 (own_old2 hHo) (fun Y hY => by cases hY; exact hap_) h2_ hf_; rw [(ord_back (e := eN n) hjl).1] at hF hH; rw [(ord_back (e := eN n) hjl).2.1, (ord_back (e := eN n) hjl).2.2.1] at hF
       refine hK _ _ ?_; clear hK K
       have hX2 : BagA 51 58 bb (ordB (ss.take (ss.length - (j + 1))) (eN n)) X2 := by have h_ := hX2; rw [(ord_back (e := eN n) hjl).2.2.2] at h_; exact h_
       refine l_at hF rfl rfl rfl (x_move (hF.tmp 87 rfl)) ?_; clear hF; intro a hF
       refine l_at hF rfl rfl rfl (x_extract (hF.tmp 84 rfl) rfl) ?_; clear hF; intro a hF
       refine l_at hF rfl rfl rfl (x_extract (hF.tmp 84 rfl) rfl) ?_; clear hF; intro a hF
       refine l_at hF rfl rfl rfl (x_extract (hF.tmp 84 rfl) rfl) ?_; clear hF; intro a hF
       refine wpList_plain rfl fun K hK => ?_
       refine w_alloc 15 hF hH rfl ty30 ?_
       clear hF hH; intro a w b15 hF hH
       refine hK _ _ ?_; clear hK K
       refine wpList_plain rfl fun K hK => ?_
       refine w_storeA 15 hH ty30 rfl (hF.tmp 15 rfl) (hF.tmp 88 rfl) rfl (by simp [Value.cells, Value.oneCell']) rfl ?_
       clear hH; intro w hH
       refine hK _ _ ?_; clear hK K
       refine l_at hF rfl rfl rfl (x_assign (hF.tmp 89 rfl)) ?_; clear hF; intro a hF
       refine l_at hF rfl rfl rfl (x_assign (hF.tmp 90 rfl)) ?_; clear hF; intro a hF
       refine wpList_nil ?_
       refine hK25 _ _ ?_
       refine wp_seq_k fun khK26 hK26 => ?_
       refine wp_region_lit ?_
       refine l_at hF rfl rfl rfl (x_loadn ty30 (hF.tmp 15 rfl) rfl (blk_whole (hH.at 15 rfl))) ?_; clear hF; intro a hF
       refine l_at hF rfl rfl rfl (x_loadn ty30 (hF.tmp 14 rfl) rfl (blk_whole (hH.at 14 rfl))) ?_; clear hF; intro a hF
       refine wpList_plain rfl fun K hK => ?_
       refine w_call hF (x_enter Tryd.func13 (by kernel_rfl) rfl (by simp only [List.map_toArray, List.map_cons, List.map_nil, hF.tmp 91 rfl, hF.tmp 92 rfl] <;> rfl)) (r16same_calls _ ((hH.rd 70 rfl)) ((hH.rd 71 rfl)) ((hH.rd 3004 rfl)) ((hH.rd 3005 rfl)) (hq0_2 _ hmw).2 (hq0_2 _ hmw).2) rfl rfl ?_
       rintro _ w ⟨rfl, hm_⟩; refine ⟨_, rfl, ?_⟩; clear hF; intro a hF; have hH := hH.same hm_
       refine hK _ _ ?_; clear hK K
       rw [decide_eq_true (rfl : (gmsg ss ((ss.length : Int) - 1 - (j : Int))) = (gmsg ss ((ss.length : Int) - 1 - (j : Int))))] at hF
       refine l_at hF rfl rfl rfl (x_assign (hF.tmp 93 rfl)) ?_; clear hF; intro a hF
       refine wpList_nil ?_
       refine hK26 _ _ ?_
       refine wp_seq_k fun khK27 hK27 => ?_
       refine wp_region_lit ?_
       refine l_at hF rfl rfl rfl (x_move (hF.tmp 17 rfl)) ?_; clear hF; intro a hF
       refine l_at hF rfl rfl rfl (x_neq (hF.tmp 94 rfl) rfl) ?_; clear hF; intro a hF
       refine l_at hF rfl rfl rfl (x_move (hF.tmp 95 rfl)) ?_; clear hF; intro a hF
       refine l_atg hF ((wanted_of hF rfl rfl rfl rfl).trans rfl) rfl rfl (x_move (hF.tmp 18 rfl)) ?_; clear hF; intro a hF
       refine l_atg hF ((wanted_of hF rfl rfl rfl rfl).trans rfl) rfl rfl (x_not (hF.tmp 97 rfl)) ?_; clear hF; intro a hF
       refine l_at hF rfl rfl rfl (x_pickF (hF.tmp 96 rfl) rfl (hF.tmp 98 rfl)) ?_; clear hF; intro a hF
       refine l_at hF rfl rfl rfl (x_move (hF.tmp 99 rfl)) ?_; clear hF; intro a hF
       refine l_atg hF ((wanted_of hF rfl rfl rfl rfl).trans rfl) rfl rfl (x_move (hF.tmp 16 rfl)) ?_; clear hF; intro a hF
       refine l_atg hF ((wanted_of hF rfl rfl rfl rfl).trans rfl) rfl rfl (x_move (hF.tmp 11 rfl)) ?_; clear hF; intro a hF
       refine l_atg hF ((wanted_of hF rfl rfl rfl rfl).trans rfl) rfl rfl (x_move (hF.tmp 102 rfl)) ?_; clear hF; intro a hF
       refine split_bool hF 103 rfl (fun hb103 => ?_) (fun hb103 => ?_)
       ·have hc103 := hb103; try simp only [Bool.or_eq_true, Bool.and_eq_true, Bool.or_eq_false_iff, Bool.and_eq_false_iff, Bool.not_eq_true', Bool.not_eq_false', decide_eq_true_eq, decide_eq_false_iff_not, Bool.not_true, Bool.not_false] at hc103
        refine l_atg hF ((wanted_of hF rfl rfl rfl rfl).trans (by rw [hb103]; rfl)) rfl rfl (x_faddr Tryd.underlying30 rfl ty3 (by decide) (hF.tmp 15 rfl) rfl) ?_; clear hF; intro a hF
        refine l_atg hF ((wanted_of hF rfl rfl rfl rfl).trans (by rw [hb103]; rfl)) rfl rfl (x_load1 ty3 (hF.tmp 104 rfl) (blk_cell (hH.at 15 rfl) 2 rfl)) ?_; clear hF; intro a hF
        refine l_atg hF ((wanted_of hF rfl rfl rfl rfl).trans (by rw [hb103]; rfl)) rfl rfl (x_move (hF.tmp 1 rfl)) ?_; clear hF; intro a hF
        refine l_atg hF ((wanted_of hF rfl rfl rfl rfl).trans (by rw [hb103]; rfl)) rfl rfl (x_eql (hF.tmp 105 rfl) (hF.tmp 106 rfl)) ?_; clear hF; intro a hF
        refine l_atg hF ((wanted_of hF rfl rfl rfl rfl).trans rfl) rfl rfl (x_pickT (hF.tmp 103 rfl) hb103 (hF.tmp 107 rfl)) ?_; clear hF; intro a hF
        refine l_atg hF ((wanted_of hF rfl rfl rfl rfl).trans rfl) rfl rfl (x_not (hF.tmp 108 rfl)) ?_; clear hF; intro a hF
        refine l_atg hF ((wanted_of hF rfl rfl rfl rfl).trans rfl) rfl rfl (x_neb (hF.tmp 101 rfl) (hF.tmp 109 rfl) Tryd.underlying4) ?_; clear hF; intro a hF
        have hlast : (!(decide ((0 : Int) = gi (eN n) (gmsg ss ((ss.length : Int) - 1 - (j : Int))).dst) == !decide ((gmsg ss ((ss.length : Int) - 1 - (j : Int))).dst = n))) = false := fr_yes (d := (gmsg ss ((ss.length : Int) - 1 - (j : Int))).dst) (by simpa using hc103) (rightM_parts (hq0_2 _ (gmsg_mem2 (by omega) (by omega))).1).dst.1 (rightM_parts (hq0_2 _ (gmsg_mem2 (by omega) (by omega))).1).dst.2
        have hF := FrD.add hF hF 110 (v := .bool false) ((show Sx.get _ 110 = some (Value.bool (!(decide ((0 : Int) = gi (eN n) (gmsg ss ((ss.length : Int) - 1 - (j : Int))).dst) == !decide ((gmsg ss ((ss.length : Int) - 1 - (j : Int))).dst = n)))) from rfl).trans (by rw [hlast]))
        refine l_at hF rfl rfl rfl (x_pickF (hF.tmp 100 rfl) rfl (hF.tmp 110 rfl)) ?_; clear hF; intro a hF
        refine wpList_nil ?_
        refine hK27 _ _ ?_
        refine wp_cond_false (hF.tmp 111 rfl) ?_
        refine wp_skip ?_
        refine hK19 _ _ ?_
        refine wp_region_lit ?_
        refine l_at hF rfl rfl rfl (x_move (hF.tmp 12 rfl)) ?_; clear hF; intro a hF
        refine l_at hF rfl rfl rfl (x_add (hF.tmp 65 rfl) rfl (w64 (by omega) (by omega))) ?_; clear hF; intro a hF
        refine l_at hF rfl rfl rfl (x_assign (hF.tmp 66 rfl)) ?_; clear hF; intro a hF
        refine wpList_nil ?_
        exact ⟨_, by omega, ⟨j + 1, X2, rfl, by omega, (by rw [cur_f hfr]; exact hX2), ((((((hF.bare.add hF 12 rfl).add hF 11 rfl).add hF 8 rfl).add hF 7 rfl).add hF 2 rfl).add hF 1 rfl), hH.sub _ (sub_cons (sub_cons (sub_cons (sub_cons (sub_nil _) 8 rfl) 100 rfl) 990 rfl) 901 rfl)⟩⟩
       ·have hc103 := hb103; try simp only [Bool.or_eq_true, Bool.and_eq_true, Bool.or_eq_false_iff, Bool.and_eq_false_iff, Bool.not_eq_true', Bool.not_eq_false', decide_eq_true_eq, decide_eq_false_iff_not, Bool.not_true, Bool.not_false] at hc103
        refine l_offg hF ((wanted_of hF rfl rfl rfl rfl).trans (by rw [hb103]; rfl)) rfl rfl ?_; clear hF; intro a hF
        refine l_offg hF ((wanted_of hF rfl rfl rfl rfl).trans (by rw [hb103]; rfl)) rfl rfl ?_; clear hF; intro a hF
        refine l_offg hF ((wanted_of hF rfl rfl rfl rfl).trans (by rw [hb103]; rfl)) rfl rfl ?_; clear hF; intro a hF
        refine l_offg hF ((wanted_of hF rfl rfl rfl rfl).trans (by rw [hb103]; rfl)) rfl rfl ?_; clear hF; intro a hF
        refine l_atg hF ((wanted_of hF rfl rfl rfl rfl).trans rfl) rfl rfl (x_pickF (hF.tmp 103 rfl) hb103 rfl) ?_; clear hF; intro a hF
        refine l_atg hF ((wanted_of hF rfl rfl rfl rfl).trans rfl) rfl rfl (x_not (hF.tmp 108 rfl)) ?_; clear hF; intro a hF
        refine l_atg hF ((wanted_of hF rfl rfl rfl rfl).trans rfl) rfl rfl (x_neb (hF.tmp 101 rfl) (hF.tmp 109 rfl) Tryd.underlying4) ?_; clear hF; intro a hF
        have hlast : (!(decide ((0 : Int) = gi (eN n) (gmsg ss ((ss.length : Int) - 1 - (j : Int))).dst) == true)) = false := fr_no (d := (gmsg ss ((ss.length : Int) - 1 - (j : Int))).dst) (by simpa using hc103) (rightM_parts (hq0_2 _ (gmsg_mem2 (by omega) (by omega))).1).dst.1 (rightM_parts (hq0_2 _ (gmsg_mem2 (by omega) (by omega))).1).dst.2
        have hF := FrD.add hF hF 110 (v := .bool false) ((show Sx.get _ 110 = some (Value.bool (!(decide ((0 : Int) = gi (eN n) (gmsg ss ((ss.length : Int) - 1 - (j : Int))).dst) == true))) from rfl).trans (by rw [hlast]))
        refine l_at hF rfl rfl rfl (x_pickF (hF.tmp 100 rfl) rfl (hF.tmp 110 rfl)) ?_; clear hF; intro a hF
        refine wpList_nil ?_
        refine hK27 _ _ ?_
        refine wp_cond_false (hF.tmp 111 rfl) ?_
        refine wp_skip ?_
        refine hK19 _ _ ?_
        refine wp_region_lit ?_
        refine l_at hF rfl rfl rfl (x_move (hF.tmp 12 rfl)) ?_; clear hF; intro a hF
        refine l_at hF rfl rfl rfl (x_add (hF.tmp 65 rfl) rfl (w64 (by omega) (by omega))) ?_; clear hF; intro a hF
        refine l_at hF rfl rfl rfl (x_assign (hF.tmp 66 rfl)) ?_; clear hF; intro a hF
        refine wpList_nil ?_
        exact ⟨_, by omega, ⟨j + 1, X2, rfl, by omega, (by rw [cur_f hfr]; exact hX2), ((((((hF.bare.add hF 12 rfl).add hF 11 rfl).add hF 8 rfl).add hF 7 rfl).add hF 2 rfl).add hF 1 rfl), hH.sub _ (sub_cons (sub_cons (sub_cons (sub_cons (sub_nil _) 8 rfl) 100 rfl) 990 rfl) 901 rfl)⟩⟩
      ·have hk72_9 := hc72; try simp only [Bool.or_eq_true, Bool.and_eq_true, Bool.or_eq_false_iff, Bool.and_eq_false_iff, Bool.not_eq_true', Bool.not_eq_false', decide_eq_true_eq, decide_eq_false_iff_not, Bool.not_true, Bool.not_false] at hc72
       have hfr : fr = true := hc72
       have hq2_1 : BagA 51 58 bb (ordB (ss.drop j) (eN n)) X := by have h_ := hq2_1; rw [cur_t hfr] at h_; exact h_
       refine wp_skip ?_
       refine hK22 _ _ ?_
       refine wp_seq_k fun khK28 hK28 => ?_
       refine wp_region_lit ?_
       refine l_at hF rfl rfl rfl (x_move (hF.tmp 7 rfl)) ?_; clear hF; intro a hF
       refine l_at hF rfl rfl rfl (x_move (hF.tmp 13 rfl)) ?_; clear hF; intro a hF
       refine wpList_plain rfl fun K hK => ?_
       refine w_call hF (x_enter Tryd.func12 (by kernel_rfl) rfl (by simp only [List.map_toArray, List.map_cons, List.map_nil, hF.tmp 85 rfl, hF.tmp 86 rfl] <;> rfl)) (take_calls _ (hH.holds 990 _ rfl) hq2_1 (hH.okX 100 rfl) (by rw [← cur_t hfr ss j]; exact (ord_ok_cur hq0_2 (by omega) (eN_len n))) (fun k h hx => hH.sep 100 990 _ _ (by decide) rfl rfl k hx (.inr h)) 0) rfl rfl ?_
       rintro _ w ⟨X2, An70, cn70, Ac70, cc70, okm70, rfl, hX2, hg_, ⟨h1_, h2_⟩, hf_, hap_⟩; refine ⟨_, rfl, ?_⟩; clear hF; intro a hF; have hHo := hH; have hH := hHo.grew 100 rfl hg_ (fun k hk => hk.elim); have hH := hH.readNew (w := _) 100 70 (own_old hHo) (fun Y hY => by cases hY; exact hap_) h1_ hf_; have hH := hH.readNew 100 71 (own_old2 hHo) (fun Y hY => by cases hY; exact hap_) h2_ hf_; rw [(ord_front (e := eN n) hjl).1] at hF hH; rw [(ord_front (e := eN n) hjl).2.1, (ord_front (e := eN n) hjl).2.2.1] at hF
       refine hK _ _ ?_; clear hK K
       have hX2 : BagA 51 58 bb (ordB (ss.drop (j + 1)) (eN n)) X2 := by have h_ := hX2; rw [(ord_front (e := eN n) hjl).2.2.2] at h_; exact h_
       refine l_at hF rfl rfl rfl (x_move (hF.tmp 87 rfl)) ?_; clear hF; intro a hF
       refine l_at hF rfl rfl rfl (x_extract (hF.tmp 84 rfl) rfl) ?_; clear hF; intro a hF
       refine l_at hF rfl rfl rfl (x_extract (hF.tmp 84 rfl) rfl) ?_; clear hF; intro a hF
       refine l_at hF rfl rfl rfl (x_extract (hF.tmp 84 rfl) rfl) ?_; clear hF; intro a hF
       refine wpList_plain rfl fun K hK => ?_
       refine w_alloc 15 hF hH rfl ty30 ?_
       clear hF hH; intro a w b15 hF hH
       refine hK _ _ ?_; clear hK K
       refine wpList_plain rfl fun K hK => ?_
       refine w_storeA 15 hH ty30 rfl (hF.tmp 15 rfl) (hF.tmp 88 rfl) rfl (by simp [Value.cells, Value.oneCell']) rfl ?_
       clear hH; intro w hH
       refine hK _ _ ?_; clear hK K
       refine l_at hF rfl rfl rfl (x_assign (hF.tmp 89 rfl)) ?_; clear hF; intro a hF
       refine l_at hF rfl rfl rfl (x_assign (hF.tmp 90 rfl)) ?_; clear hF; intro a hF
       refine wpList_nil ?_
       refine hK28 _ _ ?_
       refine wp_seq_k fun khK29 hK29 => ?_
       refine wp_region_lit ?_
       refine l_at hF rfl rfl rfl (x_loadn ty30 (hF.tmp 15 rfl) rfl (blk_whole (hH.at 15 rfl))) ?_; clear hF; intro a hF
       refine l_at hF rfl rfl rfl (x_loadn ty30 (hF.tmp 14 rfl) rfl (blk_whole (hH.at 14 rfl))) ?_; clear hF; intro a hF
       refine wpList_plain rfl fun K hK => ?_
       refine w_call hF (x_enter Tryd.func13 (by kernel_rfl) rfl (by simp only [List.map_toArray, List.map_cons, List.map_nil, hF.tmp 91 rfl, hF.tmp 92 rfl] <;> rfl)) (r16same_calls _ ((hH.rd 70 rfl)) ((hH.rd 71 rfl)) ((hH.rd 2004 rfl)) ((hH.rd 2005 rfl)) (hq0_2 _ hmw).2 (hq0_2 _ hmw).2) rfl rfl ?_
       rintro _ w ⟨rfl, hm_⟩; refine ⟨_, rfl, ?_⟩; clear hF; intro a hF; have hH := hH.same hm_
       refine hK _ _ ?_; clear hK K
       rw [decide_eq_true (rfl : (gmsg ss (j : Int)) = (gmsg ss (j : Int)))] at hF
       refine l_at hF rfl rfl rfl (x_assign (hF.tmp 93 rfl)) ?_; clear hF; intro a hF
       refine wpList_nil ?_
       refine hK29 _ _ ?_
       refine wp_seq_k fun khK30 hK30 => ?_
       refine wp_region_lit ?_
       refine l_at hF rfl rfl rfl (x_move (hF.tmp 17 rfl)) ?_; clear hF; intro a hF
       refine l_at hF rfl rfl rfl (x_neq (hF.tmp 94 rfl) rfl) ?_; clear hF; intro a hF
       refine l_at hF rfl rfl rfl (x_move (hF.tmp 95 rfl)) ?_; clear hF; intro a hF
       refine l_atg hF ((wanted_of hF rfl rfl rfl rfl).trans rfl) rfl rfl (x_move (hF.tmp 18 rfl)) ?_; clear hF; intro a hF
       refine l_atg hF ((wanted_of hF rfl rfl rfl rfl).trans rfl) rfl rfl (x_not (hF.tmp 97 rfl)) ?_; clear hF; intro a hF
       refine l_at hF rfl rfl rfl (x_pickF (hF.tmp 96 rfl) rfl (hF.tmp 98 rfl)) ?_; clear hF; intro a hF
       refine l_at hF rfl rfl rfl (x_move (hF.tmp 99 rfl)) ?_; clear hF; intro a hF
       refine l_atg hF ((wanted_of hF rfl rfl rfl rfl).trans rfl) rfl rfl (x_move (hF.tmp 16 rfl)) ?_; clear hF; intro a hF
       refine l_atg hF ((wanted_of hF rfl rfl rfl rfl).trans rfl) rfl rfl (x_move (hF.tmp 11 rfl)) ?_; clear hF; intro a hF
       refine l_atg hF ((wanted_of hF rfl rfl rfl rfl).trans rfl) rfl rfl (x_move (hF.tmp 102 rfl)) ?_; clear hF; intro a hF
       refine split_bool hF 103 rfl (fun hb103 => ?_) (fun hb103 => ?_)
       ·have hc103 := hb103; try simp only [Bool.or_eq_true, Bool.and_eq_true, Bool.or_eq_false_iff, Bool.and_eq_false_iff, Bool.not_eq_true', Bool.not_eq_false', decide_eq_true_eq, decide_eq_false_iff_not, Bool.not_true, Bool.not_false] at hc103
        refine l_atg hF ((wanted_of hF rfl rfl rfl rfl).trans (by rw [hb103]; rfl)) rfl rfl (x_faddr Tryd.underlying30 rfl ty3 (by decide) (hF.tmp 15 rfl) rfl) ?_; clear hF; intro a hF
        refine l_atg hF ((wanted_of hF rfl rfl rfl rfl).trans (by rw [hb103]; rfl)) rfl rfl (x_load1 ty3 (hF.tmp 104 rfl) (blk_cell (hH.at 15 rfl) 2 rfl)) ?_; clear hF; intro a hF
        refine l_atg hF ((wanted_of hF rfl rfl rfl rfl).trans (by rw [hb103]; rfl)) rfl rfl (x_move (hF.tmp 1 rfl)) ?_; clear hF; intro a hF
        refine l_atg hF ((wanted_of hF rfl rfl rfl rfl).trans (by rw [hb103]; rfl)) rfl rfl (x_eql (hF.tmp 105 rfl) (hF.tmp 106 rfl)) ?_; clear hF; intro a hF
        refine l_atg hF ((wanted_of hF rfl rfl rfl rfl).trans rfl) rfl rfl (x_pickT (hF.tmp 103 rfl) hb103 (hF.tmp 107 rfl)) ?_; clear hF; intro a hF
        refine l_atg hF ((wanted_of hF rfl rfl rfl rfl).trans rfl) rfl rfl (x_not (hF.tmp 108 rfl)) ?_; clear hF; intro a hF
        refine l_atg hF ((wanted_of hF rfl rfl rfl rfl).trans rfl) rfl rfl (x_neb (hF.tmp 101 rfl) (hF.tmp 109 rfl) Tryd.underlying4) ?_; clear hF; intro a hF
        have hlast : (!(decide ((0 : Int) = gi (eN n) (gmsg ss (j : Int)).dst) == !decide ((gmsg ss (j : Int)).dst = n))) = false := fr_yes (d := (gmsg ss (j : Int)).dst) (by simpa using hc103) (rightM_parts (hq0_2 _ (gmsg_mem (by omega))).1).dst.1 (rightM_parts (hq0_2 _ (gmsg_mem (by omega))).1).dst.2
        have hF := FrD.add hF hF 110 (v := .bool false) ((show Sx.get _ 110 = some (Value.bool (!(decide ((0 : Int) = gi (eN n) (gmsg ss (j : Int)).dst) == !decide ((gmsg ss (j : Int)).dst = n)))) from rfl).trans (by rw [hlast]))
        refine l_at hF rfl rfl rfl (x_pickF (hF.tmp 100 rfl) rfl (hF.tmp 110 rfl)) ?_; clear hF; intro a hF
        refine wpList_nil ?_
        refine hK30 _ _ ?_
        refine wp_cond_false (hF.tmp 111 rfl) ?_
        refine wp_skip ?_
        refine hK19 _ _ ?_
        refine wp_region_lit ?_
        refine l_at hF rfl rfl rfl (x_move (hF.tmp 12 rfl)) ?_; clear hF; intro a hF
        refine l_at hF rfl rfl rfl (x_add (hF.tmp 65 rfl) rfl (w64 (by omega) (by omega))) ?_; clear hF; intro a hF
        refine l_at hF rfl rfl rfl (x_assign (hF.tmp 66 rfl)) ?_; clear hF; intro a hF
        refine wpList_nil ?_
        exact ⟨_, by omega, ⟨j + 1, X2, rfl, by omega, (by rw [cur_t hfr]; exact hX2), ((((((hF.bare.add hF 12 rfl).add hF 11 rfl).add hF 8 rfl).add hF 7 rfl).add hF 2 rfl).add hF 1 rfl), hH.sub _ (sub_cons (sub_cons (sub_cons (sub_cons (sub_nil _) 8 rfl) 100 rfl) 990 rfl) 901 rfl)⟩⟩
       ·have hc103 := hb103; try simp only [Bool.or_eq_true, Bool.and_eq_true, Bool.or_eq_false_iff, Bool.and_eq_false_iff, Bool.not_eq_true', Bool.not_eq_false', decide_eq_true_eq, decide_eq_false_iff_not, Bool.not_true, Bool.not_false] at hc103
        refine l_offg hF ((wanted_of hF rfl rfl rfl rfl).trans (by rw [hb103]; rfl)) rfl rfl ?_; clear hF; intro a hF
        refine l_offg hF ((wanted_of hF rfl rfl rfl rfl).trans (by rw [hb103]; rfl)) rfl rfl ?_; clear hF; intro a hF
        refine l_offg hF ((wanted_of hF rfl rfl rfl rfl).trans (by rw [hb103]; rfl)) rfl rfl ?_; clear hF; intro a hF
        refine l_offg hF ((wanted_of hF rfl rfl rfl rfl).trans (by rw [hb103]; rfl)) rfl rfl ?_; clear hF; intro a hF
        refine l_atg hF ((wanted_of hF rfl rfl rfl rfl).trans rfl) rfl rfl (x_pickF (hF.tmp 103 rfl) hb103 rfl) ?_; clear hF; intro a hF
        refine l_atg hF ((wanted_of hF rfl rfl rfl rfl).trans rfl) rfl rfl (x_not (hF.tmp 108 rfl)) ?_; clear hF; intro a hF
        refine l_atg hF ((wanted_of hF rfl rfl rfl rfl).trans rfl) rfl rfl (x_neb (hF.tmp 101 rfl) (hF.tmp 109 rfl) Tryd.underlying4) ?_; clear hF; intro a hF
        have hlast : (!(decide ((0 : Int) = gi (eN n) (gmsg ss (j : Int)).dst) == true)) = false := fr_no (d := (gmsg ss (j : Int)).dst) (by simpa using hc103) (rightM_parts (hq0_2 _ (gmsg_mem (by omega))).1).dst.1 (rightM_parts (hq0_2 _ (gmsg_mem (by omega))).1).dst.2
        have hF := FrD.add hF hF 110 (v := .bool false) ((show Sx.get _ 110 = some (Value.bool (!(decide ((0 : Int) = gi (eN n) (gmsg ss (j : Int)).dst) == true))) from rfl).trans (by rw [hlast]))
        refine l_at hF rfl rfl rfl (x_pickF (hF.tmp 100 rfl) rfl (hF.tmp 110 rfl)) ?_; clear hF; intro a hF
        refine wpList_nil ?_
        refine hK30 _ _ ?_
        refine wp_cond_false (hF.tmp 111 rfl) ?_
        refine wp_skip ?_
        refine hK19 _ _ ?_
        refine wp_region_lit ?_
        refine l_at hF rfl rfl rfl (x_move (hF.tmp 12 rfl)) ?_; clear hF; intro a hF
        refine l_at hF rfl rfl rfl (x_add (hF.tmp 65 rfl) rfl (w64 (by omega) (by omega))) ?_; clear hF; intro a hF
        refine l_at hF rfl rfl rfl (x_assign (hF.tmp 66 rfl)) ?_; clear hF; intro a hF
        refine wpList_nil ?_
        exact ⟨_, by omega, ⟨j + 1, X2, rfl, by omega, (by rw [cur_t hfr]; exact hX2), ((((((hF.bare.add hF 12 rfl).add hF 11 rfl).add hF 8 rfl).add hF 7 rfl).add hF 2 rfl).add hF 1 rfl), hH.sub _ (sub_cons (sub_cons (sub_cons (sub_cons (sub_nil _) 8 rfl) 100 rfl) 990 rfl) 901 rfl)⟩⟩
     ·have hk64_10 := hc64; try simp only [Bool.or_eq_true, Bool.and_eq_true, Bool.or_eq_false_iff, Bool.and_eq_false_iff, Bool.not_eq_true', Bool.not_eq_false', decide_eq_true_eq, decide_eq_false_iff_not, Bool.not_true, Bool.not_false] at hc64
      have hje : j = ss.length := by omega
      refine wp_exit ?_
      refine hK15 _ _ ?_
      refine wp_seq_k fun khK31 hK31 => ?_
      refine wp_region_lit ?_
      refine wpList_plain rfl fun K hK => ?_
      refine w_call hF (x_enter Tryd.func14 (by kernel_rfl) rfl (by simp only [List.map_toArray, List.map_cons, List.map_nil] <;> rfl)) (balive_calls _ (hH.holds 990 _ rfl)) rfl rfl ?_
      rintro _ w ⟨rfl, hm_⟩; refine ⟨_, rfl, ?_⟩; clear hF; intro a hF; have hH := hH.same hm_
      refine hK _ _ ?_; clear hK K
      refine l_at hF rfl rfl rfl (x_move (hF.tmp 112 rfl)) ?_; clear hF; intro a hF
      refine l_atg hF ((wanted_of hF rfl rfl rfl rfl).trans rfl) rfl rfl (x_move (hF.tmp 7 rfl)) ?_; clear hF; intro a hF
      refine wpList_on ((wanted_of hF rfl rfl rfl rfl).trans rfl) fun K hK => ?_
      refine w_call hF (x_enter Tryd.func11 (by kernel_rfl) rfl (by simp only [List.map_toArray, List.map_cons, List.map_nil, hF.tmp 114 rfl] <;> rfl)) (blen_calls _ hq2_1 (hH.okX 100 rfl) (ord_ok_cur hq0_2 (by omega) (eN_len n))) rfl rfl ?_
      rintro _ w ⟨rfl, hm_⟩; refine ⟨_, rfl, ?_⟩; clear hF; intro a hF; have hH := hH.same hm_
      refine hK _ _ ?_; clear hK K
      rw [show ((ordB (curB fr ss j) (eN n)).ways.length : Int) = 0 by rw [hje, cur_end]; rfl] at hF
      refine l_atg hF ((wanted_of hF rfl rfl rfl rfl).trans rfl) rfl rfl (x_eql (hF.tmp 115 rfl) rfl) ?_; clear hF; intro a hF
      refine l_at hF rfl rfl rfl (x_pickT (hF.tmp 113 rfl) rfl (hF.tmp 116 rfl)) ?_; clear hF; intro a hF
      refine l_at hF rfl rfl rfl (x_assign (hF.tmp 117 rfl)) ?_; clear hF; intro a hF
      refine wpList_nil ?_
      refine hK31 _ _ ?_
      refine wp_ret ?_
      try simp only [Exit.then, Exit.inBlock]
      exact fin_ret hF (res1 (v := .bool true) hF rfl rfl) ⟨rfl, hH.mods⟩
end Go.Proofs.YtfocpadeflpabaaDoor.Act
